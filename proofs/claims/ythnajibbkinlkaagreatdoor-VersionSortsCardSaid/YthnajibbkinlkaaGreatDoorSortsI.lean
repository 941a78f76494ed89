/- The walks of version.Is, of the two closures of version.Sort, and of what looks for a text that is none. -/
import Derived.Test.YthnajibbkinlkaaGreatDoorSortsB
import Derived.Test.YthnajibbkinlkaaGreatDoorOrderA
import Derived.BigQuiet
import Derived.Shelf.SlSortCmp.Whole1
namespace Go.Proofs.YthnajibbkinlkaaGreatDoor.PV
open Go.RowKit Go.Proofs.YthnajibbkinlkaaGreatDoorW.PrintWords Go.Proofs.YthnajibbkinlkaaGreatDoorW.PrintLast Go.Proofs.YthnajibbkinlkaaGreatDoorW.PrintMore Go.Proofs.YthnajibbkinlkaaGreatDoor.SortsP
set_option linter.unusedVariables false
set_option linter.unusedSimpArgs false
set_option maxHeartbeats 8000000 in
set_option maxRecDepth 100000 in
theorem is_calls (s : ByteArray) (w : World) (hG : GW w) : Calls Tryz.prog 11 #[.string s] w fun e w' => e = .returned (.bool (verOf s).isSome) ∧ DBelow w.heap.size w w' := by
  have HG := Aside0.mk hG
  clear hG
  cases hs : verOf s with
  | none =>
    go_enter Tryz.func11, Tryz.ntmps11
    go_wp2_with (fail)
    refine (read_calls s _ _ _ _ _ _ HG.out (read_none hs)).mono ?_
    rintro e w1 ⟨A1, k1, rfl, hk1, hC1, hb1⟩
    have HB1 := Aside0.mk (dbelow_step (w := w) (by repeat (first | exact DBelow.refl _ _ | exact HB9.out | exact HB8.out | exact HB7.out | exact HB6.out | exact HB5.out | exact HB4.out | exact HB3.out | exact HB2.out | exact HB1.out | exact HB.out | (refine DBelow.alloc ?_ (by first | exact HB9.out.size | exact HB8.out.size | exact HB7.out.size | exact HB6.out.size | exact HB5.out.size | exact HB4.out.size | exact HB3.out.size | exact HB2.out.size | exact HB1.out.size | exact HB.out.size | (simp; done) | (simp <;> omega)) _) | apply dpw_below_drewN | apply dbelow_drew1 | (refine DBelow.setCell ?_ (by first | (simp; done) | (simp <;> omega) | omega) _))) hb1); obtain ⟨hc1, hf1⟩ := bcell hb1; have hz1 := hb1.size; (try simp at hz1); clear hb1
    go_wp2
    go_ret
    exact ⟨rfl, by repeat (first | exact DBelow.refl _ _ | exact HB9.out | exact HB8.out | exact HB7.out | exact HB6.out | exact HB5.out | exact HB4.out | exact HB3.out | exact HB2.out | exact HB1.out | exact HB.out | (refine DBelow.alloc ?_ (by first | exact HB9.out.size | exact HB8.out.size | exact HB7.out.size | exact HB6.out.size | exact HB5.out.size | exact HB4.out.size | exact HB3.out.size | exact HB2.out.size | exact HB1.out.size | exact HB.out.size | (simp; done) | (simp <;> omega)) _) | apply dpw_below_drewN | apply dbelow_drew1 | (refine DBelow.setCell ?_ (by first | (simp; done) | (simp <;> omega) | omega) _))⟩
  | some v =>
    go_enter Tryz.func11, Tryz.ntmps11
    go_wp2_with (fail)
    refine (read_calls s _ _ _ _ _ _ HG.out (read_some hs)).mono ?_
    rintro e w1 ⟨A1, k1, rfl, hk1, hC1, hb1⟩
    have HB1 := Aside0.mk (dbelow_step (w := w) (by repeat (first | exact DBelow.refl _ _ | exact HB9.out | exact HB8.out | exact HB7.out | exact HB6.out | exact HB5.out | exact HB4.out | exact HB3.out | exact HB2.out | exact HB1.out | exact HB.out | (refine DBelow.alloc ?_ (by first | exact HB9.out.size | exact HB8.out.size | exact HB7.out.size | exact HB6.out.size | exact HB5.out.size | exact HB4.out.size | exact HB3.out.size | exact HB2.out.size | exact HB1.out.size | exact HB.out.size | (simp; done) | (simp <;> omega)) _) | apply dpw_below_drewN | apply dbelow_drew1 | (refine DBelow.setCell ?_ (by first | (simp; done) | (simp <;> omega) | omega) _))) hb1); obtain ⟨hc1, hf1⟩ := bcell hb1; have hz1 := hb1.size; (try simp at hz1); clear hb1
    go_wp2
    go_ret
    exact ⟨rfl, by repeat (first | exact DBelow.refl _ _ | exact HB9.out | exact HB8.out | exact HB7.out | exact HB6.out | exact HB5.out | exact HB4.out | exact HB3.out | exact HB2.out | exact HB1.out | exact HB.out | (refine DBelow.alloc ?_ (by first | exact HB9.out.size | exact HB8.out.size | exact HB7.out.size | exact HB6.out.size | exact HB5.out.size | exact HB4.out.size | exact HB3.out.size | exact HB2.out.size | exact HB1.out.size | exact HB.out.size | (simp; done) | (simp <;> omega)) _) | apply dpw_below_drewN | apply dbelow_drew1 | (refine DBelow.setCell ?_ (by first | (simp; done) | (simp <;> omega) | omega) _))⟩

set_option maxHeartbeats 8000000 in
theorem nis_calls (s : ByteArray) (w : World) (hG : GW w) : Calls Tryz.prog 10 #[.string s] w fun e w' => e = .returned (.bool (!vB s)) ∧ Below w.heap.size w w' := by
  have HI := is_calls s w hG
  change Calls Tryz.prog 11 #[.string s] w fun e w' => e = .returned (.bool (vB s)) ∧ DBelow w.heap.size w w' at HI
  generalize vB s = b at *
  go_enter Tryz.func10, Tryz.ntmps10
  go_wp2_with (fail)
  refine HI.mono ?_
  rintro e w1 ⟨rfl, hb1⟩
  go_wp2_with (fail)
  go_ret
  exact ⟨rfl, hb1.b⟩
set_option maxHeartbeats 8000000 in
set_option maxRecDepth 100000 in
theorem idx_calls (A : Option Addr) (c : Nat) (l : List ByteArray) (w : World) (hA : Kd.C Kd.string w A l.length l) (hl : l.length ≤ 200) (hG : GW w) :
    Calls Tryz.prog 24 #[.slice A l.length c, .func (.func 10) #[] #[]] w fun e w' => Below w.heap.size w w' ∧ (((∀ x ∈ l, vB x = true) ∧ e = .returned (.int .i64 (-1))) ∨ ((∃ x ∈ l, ¬ vB x = true) ∧ ∃ n : Nat, e = .returned (.int .i64 n))) := by
  have HA := Aside0.mk hA
  have HG := Aside0.mk hG
  clear hA hG
  go_enter Tryz.func24, Tryz.ntmps24
  go_wp2
  go_loopg [8] l.length (fun g v8 w' => ∃ (i : Nat), i ≤ l.length ∧ g = l.length - i ∧ v8 = .int .i64 i ∧ Aside0 (∀ x ∈ l.take i, vB x = true) ∧ Aside0 (Below w.heap.size w w'))
  case atStart => exact ⟨0, Nat.zero_le _, rfl, rfl, ⟨by simp⟩, ⟨Below.refl _ _⟩⟩
  case round =>
    obtain ⟨i, hi, rfl, rfl, HM, HB⟩ := hrel
    by_cases h1 : i < l.length
    · obtain ⟨ad, rfl, hcell0⟩ := C_at HA.out i h1
      have hcell : wr.cell? (ad.add i) = some (.string (l[i]'h1)) := pw_cell_below HB.out hcell0
      have HT : Aside0 (l.take (i + 1) = l.take i ++ [l[i]'h1]) := ⟨List.take_succ_eq_append_getElem h1⟩
      have HX : Aside0 ((l[i]'h1) ∈ l) := ⟨List.getElem_mem h1⟩
      clear hcell0
      generalize (l[i]'h1) = x at *
      have q1 : (i : Int) < (l.length : Int) := by omega
      have q0 : (0 : Int) ≤ (i : Int) := by omega
      have HN := Aside0.mk (nis_calls x wr (GW.below HG.out HB.out))
      by_cases hm : vB x = true
      · have HMM := Aside0.mk hm
        have HN1 := HN.out
        rw [hm] at HN1
        clear hm HN
        go_wp2_with (fail)
        refine HN1.mono ?_
        rintro e w1 ⟨rfl, hb1⟩
        have HB1 := Aside0.mk (below_step (w := w) HB.out hb1)
        clear hb1 HN1
        go_wp2_with (fail)
        go_roundg (l.length - (i + 1))
        case measure => omega
        case rel => exact ⟨i + 1, by omega, rfl, by simp, ⟨by rw [HT.out]; intro y hy; rcases List.mem_append.1 hy with h | h; exact HM.out y h; rw [List.mem_singleton.1 h]; exact HMM.out⟩, HB1⟩
      · have hm' : vB x = false := by simpa using hm
        have HMM := Aside0.mk hm
        have HN1 := HN.out
        rw [hm'] at HN1
        clear hm hm' HN
        go_wp2_with (fail)
        refine HN1.mono ?_
        rintro e w1 ⟨rfl, hb1⟩
        have HB1 := Aside0.mk (below_step (w := w) HB.out hb1)
        clear hb1 HN1
        go_wp2_with (fail)
        go_ret
        exact ⟨HB1.out, .inr ⟨⟨x, HX.out, HMM.out⟩, i, rfl⟩⟩
    · have h2 : i = l.length := by omega
      have HALL : Aside0 (∀ x ∈ l, vB x = true) := ⟨by
        have := HM.out
        rw [h2, List.take_length] at this
        exact this⟩
      have q1 : ¬ (i : Int) < (l.length : Int) := by omega
      go_wp2_with (fail)
      go_ret
      exact ⟨HB.out, .inl ⟨HALL.out, rfl⟩⟩
set_option maxHeartbeats 8000000 in
theorem contains_calls (A : Option Addr) (c : Nat) (l : List ByteArray) (w : World) (hA : Kd.C Kd.string w A l.length l) (hl : l.length ≤ 200) (hG : GW w) :
    Calls Tryz.prog 9 #[.slice A l.length c, .func (.func 10) #[] #[]] w fun e w' => Below w.heap.size w w' ∧ (((∀ x ∈ l, vB x = true) ∧ e = .returned (.bool false)) ∨ ((∃ x ∈ l, ¬ vB x = true) ∧ e = .returned (.bool true))) := by
  have HI := Aside0.mk (idx_calls A c l w hA hl hG)
  clear hA hG
  go_enter Tryz.func9, Tryz.ntmps9
  go_wp2_with (fail)
  refine HI.out.mono ?_
  rintro e w1 ⟨hb1, ⟨h1, rfl⟩ | ⟨h1, n, rfl⟩⟩
  · have HB1 := Aside0.mk hb1
    have H1 := Aside0.mk h1
    clear h1 hb1
    go_wp2_with (fail)
    go_ret
    exact ⟨HB1.out, .inl ⟨H1.out, rfl⟩⟩
  · have HB1 := Aside0.mk hb1
    have H1 := Aside0.mk h1
    have q : (0 : Int) ≤ (n : Int) := by omega
    clear h1 hb1
    go_wp2_with (fail)
    go_ret
    exact ⟨HB1.out, .inr ⟨H1.out, by simp⟩⟩
/-- A text that is a version's. -/
abbrev V := { s : ByteArray // vB s = true }
instance : Inhabited V := ⟨⟨⟨#[48, 46, 48, 46, 48]⟩, by kernel_rfl⟩⟩
def vGet (x : V) : Int × Int × Int × List ByteArray := (verOf x.1).get x.2
theorem vGet_eq (x : V) : verOf x.1 = some (vGet x) := (Option.some_get x.2).symm
def cfV (x y : V) : Int := cmpVer (vGet x) (vGet y)
theorem cfV_lt {x y : V} (h : cfV x y < 0) : ltB x.1 y.1 := ⟨_, _, vGet_eq x, vGet_eq y, h⟩
theorem cfV_zero {x y : V} (h : cfV x y = 0) : x = y := Subtype.ext (ver_inj (vGet_eq x) (by rw [(to_cmpVer.zero _ _).1 h]; exact vGet_eq y))
theorem swoV : Go.Sort.SWO (Go.Proofs.ltOf cfV) where
  irrefl x := by
    unfold Go.Proofs.ltOf cfV
    rw [(to_cmpVer.zero _ _).2 rfl]
    rfl
  trans x y z h1 h2 := by
    unfold Go.Proofs.ltOf cfV at *
    simp only [decide_eq_true_eq] at *
    exact to_cmpVer.strict (by omega) (by omega) (.inl h1)
  ntrans x y z h1 h2 := by
    unfold Go.Proofs.ltOf cfV at *
    simp only [decide_eq_false_iff_not] at *
    have a1 := to_cmpVer.anti (vGet x) (vGet y)
    have a2 := to_cmpVer.anti (vGet y) (vGet z)
    have a3 := to_cmpVer.anti (vGet x) (vGet z)
    have := to_cmpVer.trans (vGet z) (vGet y) (vGet x) (by omega) (by omega)
    omega
set_option maxHeartbeats 8000000 in
theorem closure_calls (x y : V) (w : World) (hG : GW w) : Calls Tryz.prog 14 #[.string x.1, .string y.1] w fun e w' => e = .returned (.int .i64 (cfV x y)) ∧ DBelow w.heap.size w w' := by
  have HO := version_Order.calls x.1 y.1 _ _ w hG (order_both (vGet_eq x) (vGet_eq y))
  change Calls Tryz.prog 8 _ w fun e w' => e = .returned (.tuple #[.int .i64 (cfV x y), .int .i64 0]) ∧ DBelow w.heap.size w w' at HO
  generalize cfV x y = r at *
  go_enter Tryz.func14, Tryz.ntmps14
  go_wp2_with (fail)
  refine HO.mono ?_
  rintro e w1 ⟨rfl, hb1⟩
  go_wp2_with (fail)
  go_ret
  exact ⟨rfl, hb1⟩
end Go.Proofs.YthnajibbkinlkaaGreatDoor.PV

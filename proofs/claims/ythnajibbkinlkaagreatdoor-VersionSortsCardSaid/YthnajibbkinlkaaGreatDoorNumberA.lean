/- The walk of version.number: it returns what 'version_number.f' says. -/
import Derived.Test.YthnajibbkinlkaaGreatDoorPVx0
import Derived.Test.YthnajibbkinlkaaGreatDoorDB
import Derived.Test.YthnajibbkinlkaaGreatDoorPVx1
import Derived.Test.YthnajibbkinlkaaGreatDoorMayA
import Derived.Test.YthnajibbkinlkaaGreatDoorShelf
import Derived.Lib.SmallJoins
namespace Go.Proofs.YthnajibbkinlkaaGreatDoor.PV
open Go.RowKit Go.Proofs.YthnajibbkinlkaaGreatDoorW.PrintWords Go.Proofs.YthnajibbkinlkaaGreatDoorW.PrintLast Go.Proofs.YthnajibbkinlkaaGreatDoorW.PrintMore
attribute [local go_sem] max2_int min2_int max_two min_two max_three min_three max_four min_four   -- for this text's walks alone
set_option linter.unusedVariables false
set_option linter.unusedSimpArgs false

/-- The number that digits spell. -/
def decV (l : List UInt8) : Nat := l.foldl (fun n c => 10 * n + (c.toNat - 48)) 0
def numOk (l : List UInt8) : Bool := digL l && (plainL l && decide (l.length ≤ 10))
def version_number.f (a0 : ByteArray) : Option (Int × Bool) :=
  if a0.size < 9223372036854775000 then some (if numOk a0.data.toList = true then ((((decV a0.data.toList : Nat) : Int) % 4294967296), decide ((decV a0.data.toList : Int) ≤ 2147483647)) else (0, false)) else none
theorem fold_bound (l : List UInt8) (h : l.all dgc = true) : ∀ n : Nat, l.foldl (fun n c => 10 * n + (c.toNat - 48)) n ≤ 10 ^ l.length * (n + 1) - 1 := by
  induction l with
  | nil => intro n; simp
  | cons c l ih =>
    intro n
    rw [List.all_cons, Bool.and_eq_true] at h
    have h1 := of_decide_eq_true h.1
    have h2 := ih h.2 (10 * n + (c.toNat - 48))
    rw [List.foldl_cons, List.length_cons, Nat.pow_succ, Nat.mul_assoc]
    have h3 : 10 * n + (c.toNat - 48) + 1 ≤ 10 * (n + 1) := by omega
    have h4 := Nat.mul_le_mul_left (10 ^ l.length) h3
    omega
theorem dec_bound (l : List UInt8) (h : l.all dgc = true) (hl : l.length ≤ 10) : decV l < 10000000000 := by
  have h1 := fold_bound l h 0
  have h2 : 10 ^ l.length ≤ 10 ^ 10 := Nat.pow_le_pow_right (by omega) hl
  unfold decV
  have h3 : (10 : Nat) ^ 10 = 10000000000 := by decide
  have h4 : 0 < 10 ^ l.length := Nat.pow_pos (by omega)
  omega
theorem fold_ge (l : List UInt8) : ∀ n : Nat, n ≤ l.foldl (fun n c => 10 * n + (c.toNat - 48)) n := by
  induction l with
  | nil => intro n; exact Nat.le_refl _
  | cons c l ih => intro n; rw [List.foldl_cons]; have := ih (10 * n + (c.toNat - 48)); omega
theorem parse_m (l : List UInt8) (h : l.all dgc = true) : ∀ n : Nat, l.foldl (fun n c => 10 * n + (c.toNat - 48)) n < 18446744073709551616 → Lib.parseUintM (2 ^ 64 - 1) n l = .ok (l.foldl (fun n c => 10 * n + (c.toNat - 48)) n) := by
  induction l with
  | nil => intro n hn; simp [Lib.parseUintM]
  | cons c l ih =>
    intro n hn
    rw [List.all_cons, Bool.and_eq_true] at h
    have h1 := of_decide_eq_true h.1
    rw [List.foldl_cons] at hn ⊢
    have h2 := fold_ge l (10 * n + (c.toNat - 48))
    have h3 := ih h.2 (10 * n + (c.toNat - 48)) hn
    have e : n * 10 + (c.toNat - 48) = 10 * n + (c.toNat - 48) := by omega
    have p : (2 : Nat) ^ 64 - 1 = 18446744073709551615 := by decide
    rw [Lib.parseUintM, if_pos (by omega), if_neg (by omega), e, if_neg (by rw [p]; omega)]
    exact h3
theorem parse_ok (l : List UInt8) (h : digL l = true) (hl : l.length ≤ 10) : Lib.parseUintB 64 l = .ok (decV l) := by
  unfold digL at h
  rw [Bool.and_eq_true, decide_eq_true_eq] at h
  rw [Lib.parseUintB, if_neg h.2]
  have := dec_bound l h.1 hl
  exact parse_m l h.1 0 (by show decV l < _; omega)

set_option maxHeartbeats 4000000 in
set_option maxRecDepth 100000 in
theorem version_number.calls (a0 : ByteArray) (r1 : Int) (r2 : Bool) (w : World) (hG : GW w) (h : version_number.f a0 = some (r1, r2)) :
    Calls Tryz.prog 21 #[.string a0] w fun e w' => e = .returned (.tuple #[.int .u32 r1, .bool r2]) ∧ DBelow w.heap.size w w' := by
  have HG := Aside0.mk hG
  clear hG
  unfold version_number.f at h
  by_cases hbig : a0.size < 9223372036854775000
  case neg => rw [if_neg hbig] at h; cases h
  rw [if_pos hbig] at h
  have HH := Aside0.mk (Option.some.inj h)
  clear h
  have HD := Aside0.mk (digits_eq a0 (by omega) (a0.size + 1) (by omega))
  have hn : numOk a0.data.toList = (digL a0.data.toList && (plainL a0.data.toList && decide (a0.size ≤ 10))) := by unfold numOk; rw [size_len]
  by_cases hd : digL a0.data.toList = true
  case neg =>
    have hd := Bool.eq_false_iff.2 hd
    rw [hd, Bool.false_and] at hn
    have hr := HH.out
    rw [hn, if_neg (by decide)] at hr
    cases hr
    have HDD := HD.out
    rw [hd] at HDD
    have HDD := Aside0.mk HDD
    clear hn hd HH HD
    go_enter Tryz.func21, Tryz.ntmps21
    go_wp2_with (go_at_call 31; refine (version_digits.calls (a0.size + 1) a0 false _ HG.out HDD.out).mono ?_; rintro e w1 ⟨rfl, ⟨m, rfl⟩⟩)
    go_ret2
    exact ⟨rfl, dpw_below_drewN (DBelow.refl _ _) _⟩
  case pos =>
    rw [hd, Bool.true_and] at hn
    have HDD := HD.out
    rw [hd] at HDD
    have HDD := Aside0.mk HDD
    have hpos : 0 < a0.size := by
      unfold digL at hd
      rw [Bool.and_eq_true, decide_eq_true_eq] at hd
      rw [← size_len]
      exact List.length_pos_iff.2 hd.2
    have HP := plain_eq a0 hpos
    by_cases hp : plainL a0.data.toList = true
    case neg =>
      have hp := Bool.eq_false_iff.2 hp
      rw [hp, Bool.false_and] at hn
      have hr := HH.out
      rw [hn, if_neg (by decide)] at hr
      cases hr
      rw [hp] at HP
      have HP := Aside0.mk HP
      clear hn hd HH HD hp
      go_enter Tryz.func21, Tryz.ntmps21
      go_wp2_with (first | (go_at_call 31; refine (version_digits.calls (a0.size + 1) a0 true _ HG.out HDD.out).mono ?_; rintro e w1 ⟨rfl, ⟨m, rfl⟩⟩) | (go_at_call 32; refine (version_plain.calls a0 false _ (by exact HG.out) HP.out).mono ?_; rintro e w1 ⟨rfl, ⟨m2, rfl⟩⟩))
      go_ret2
      exact ⟨rfl, by repeat (first | exact DBelow.refl _ _ | apply dpw_below_drewN)⟩
    case pos =>
      rw [hp, Bool.true_and] at hn
      rw [hp] at HP
      have HP := Aside0.mk HP
      by_cases h10 : a0.size ≤ 10
      case neg =>
        rw [decide_eq_false h10] at hn
        have hr := HH.out
        rw [hn, if_neg (by decide)] at hr
        cases hr
        clear hn hd HH HD hp
        go_enter Tryz.func21, Tryz.ntmps21
        go_wp2_with (first | (go_at_call 31; refine (version_digits.calls (a0.size + 1) a0 true _ HG.out HDD.out).mono ?_; rintro e w1 ⟨rfl, ⟨m, rfl⟩⟩) | (go_at_call 32; refine (version_plain.calls a0 true _ (by exact HG.out) HP.out).mono ?_; rintro e w1 ⟨rfl, ⟨m2, rfl⟩⟩))
        go_ret2
        exact ⟨rfl, by repeat (first | exact DBelow.refl _ _ | apply dpw_below_drewN)⟩
      case pos =>
        rw [decide_eq_true h10] at hn
        have hr := HH.out
        rw [hn, if_pos rfl] at hr
        have HV := Aside0.mk (parse_ok a0.data.toList hd (by rw [size_len]; exact h10))
        have hb := dec_bound a0.data.toList (by unfold digL at hd; exact (Bool.and_eq_true_iff.1 hd).1) (by rw [size_len]; exact h10)
        clear hn hd HH HD hp
        generalize decV a0.data.toList = u at *
        cases hr
        go_enter Tryz.func21, Tryz.ntmps21
        go_wp2_with (first | (go_at_call 31; refine (version_digits.calls (a0.size + 1) a0 true _ HG.out HDD.out).mono ?_; rintro e w1 ⟨rfl, ⟨m, rfl⟩⟩) | (go_at_call 32; refine (version_plain.calls a0 true _ (by exact HG.out) HP.out).mono ?_; rintro e w1 ⟨rfl, ⟨m2, rfl⟩⟩) | (go_at_call 33; refine (Tryz.strconv_ParseUint_10_at64_ok a0 (by omega) u HV.out _).mono ?_; rintro e w1 ⟨rfl, hw⟩))
        go_ret2
        refine ⟨?_, ?_⟩
        · rfl
        · rcases hw with rfl | rfl
          · repeat (first | exact DBelow.refl _ _ | apply dpw_below_drewN)
          · refine DBelow.trans ?_ ⟨Joins.below_bytesWorld _ _ _ _ (Nat.le_refl _), Nat.le_succ _⟩
            repeat (first | exact DBelow.refl _ _ | apply dpw_below_drewN)

end Go.Proofs.YthnajibbkinlkaaGreatDoor.PV

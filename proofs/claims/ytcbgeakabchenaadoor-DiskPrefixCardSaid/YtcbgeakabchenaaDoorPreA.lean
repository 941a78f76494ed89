/- The walk of after. -/
import Derived.Test.YtcbgeakabchenaaDoorPreP
namespace Go.Proofs.YtcbgeakabchenaaDoor.D
open Go.RowKit Go.Extern.Stop Go.Stop Go.Extern Go.Proofs.YtcbgeakabchenaaDoorW.PrintWords Go.Proofs.YtcbgeakabchenaaDoorW.PrintLast Go.Proofs.YtcbgeakabchenaaDoorW.PrintMore
set_option linter.unusedVariables false
set_option linter.unusedSimpArgs false
/-- What 'after' hands back. -/
def afterF (before text : ByteArray) (put : Bool) (k : Int) : ByteArray := ⟨(afterL before text put k).toArray⟩
theorem tl_afterF (before text : ByteArray) (put : Bool) (k : Int) : tl (afterF before text put k) = afterL before text put k := rfl
theorem neqE (w : World) : (binOp .neq 28 .nilIface .nilIface).run Tryd.prog w = .ok (.bool false) w := by kernel_rfl
theorem Er.nil {w : World} {lo : Nat} {v : Value} {name : ByteArray} (h : Er w lo v 0 name) : v = .nilIface := by
  rcases h with ⟨_, h⟩ | ⟨h, _⟩
  · exact h
  · omega
theorem there_one (y : ByteArray) (k : Int) : thereC ⟨[(sF, y)], k, 0, false⟩ sF = 0 := by
  unfold thereC
  have e : lk [(sF, y)] sF = some y := by rw [lk, if_pos rfl]
  rw [if_neg (fun h => h rfl)]
  show (if (lk [(sF, y)] sF).isSome = true then 0 else 6) = 0
  rw [e]
  rfl
set_option maxHeartbeats 32000000 in
set_option maxRecDepth 100000 in
theorem after_calls (before text : ByteArray) (put : Bool) (k : Int) (w : World) (hk : -1 ≤ k) (h : before.size + text.size ≤ 4000) : Calls Tryd.prog 5 #[.string before, .string text, .bool put, .int .i64 k] w fun e w' => e = .returned (.string (afterF before text put k)) ∧ Below w.heap.size w w' := by
  have hne := neqE
  obtain ⟨s1, hp1, hL1⟩ := put_first before (by omega)
  have HP1 := Aside0.mk hp1
  have HL1 := Aside0.mk hL1
  clear hp1 hL1
  cases put
  case false =>
    obtain ⟨y, hy1, hy2⟩ := app_again before text k hk h
    have HY1 := Aside0.mk hy1
    have HY2 : Aside0 (y = afterF before text false k) := ⟨tl_inj hy2⟩
    clear hy1 hy2
    go_enter Tryd.func5, Tryd.ntmps5
    go_wp2_with (fail)
    refine (new_calls (-1) _).mono ?_
    rintro e w1 ⟨p, b, rfl, hp, hb, hD1, hB1⟩
    have hlp := hD1.lt
    have hlb := hD1.ltb
    have HD1 := Aside0.mk hD1
    have HB1 := Aside0.mk hB1
    clear hD1 hB1
    go_wp2_with (fail)
    refine (put_calls p b _ sF before _ HD1.out (by decide) (by omega)).mono ?_
    rw [HP1.out]
    rintro e w2 ⟨v1, rfl, hE, hD2, hK2⟩
    obtain rfl := hE.nil
    have HD2 := Aside0.mk hD2
    have HB2 := Aside0.mk (HB1.out.trans (hK2.below hp hb HB1.out.size))
    clear hE hD2 hK2
    go_wp2_with (fail)
    refine (restart_calls p b _ k _ HD2.out).mono ?_
    rintro e w3 ⟨rfl, hD3, hK3⟩
    rw [HL1.out] at hD3
    have HD3 := Aside0.mk hD3
    have HB3 := Aside0.mk (HB2.out.trans (hK3.below hp hb HB2.out.size))
    clear hD3 hK3
    go_wp2_with (fail)
    refine (append_calls p b (s2F before k) sF text _ HD3.out (by decide) (by omega)).mono ?_
    rintro e w4 ⟨v4, rfl, hE4, hD4, hK4⟩
    have HD4 := Aside0.mk hD4
    have HB4 := Aside0.mk (HB3.out.trans (hK4.below hp hb HB3.out.size))
    clear hE4 hD4 hK4
    go_wp2_with (fail)
    refine (restart_calls p b _ (-1) _ HD4.out).mono ?_
    rintro e w5 ⟨rfl, hD5, hK5⟩
    rw [HY1.out] at hD5
    have HD5 := Aside0.mk hD5
    have HB5 := Aside0.mk (HB4.out.trans (hK5.below hp hb HB4.out.size))
    clear hD5 hK5
    go_wp2_with (fail)
    refine (read_calls p b _ sF _ HD5.out (by decide)).mono ?_
    rw [there_one, if_pos rfl, show lkD (St.L ⟨[(sF, y)], -1, 0, false⟩) sF = y from lkD_one y, HY2.out]
    rintro e w6 ⟨v6, rfl, hE6, hb6⟩
    obtain rfl := hE6.nil
    have HB6 := Aside0.mk (below_step HB5.out hb6)
    clear hE6 hb6
    go_wp2_with (fail)
    go_ret
    exact ⟨rfl, HB6.out⟩
  case true =>
    obtain ⟨y, hy1, hy2⟩ := put_again before text k hk (by omega)
    have HY1 := Aside0.mk hy1
    have HY2 : Aside0 (y = afterF before text true k) := ⟨tl_inj hy2⟩
    clear hy1 hy2
    go_enter Tryd.func5, Tryd.ntmps5
    go_wp2_with (fail)
    refine (new_calls (-1) _).mono ?_
    rintro e w1 ⟨p, b, rfl, hp, hb, hD1, hB1⟩
    have hlp := hD1.lt
    have hlb := hD1.ltb
    have HD1 := Aside0.mk hD1
    have HB1 := Aside0.mk hB1
    clear hD1 hB1
    go_wp2_with (fail)
    refine (put_calls p b _ sF before _ HD1.out (by decide) (by omega)).mono ?_
    rw [HP1.out]
    rintro e w2 ⟨v1, rfl, hE, hD2, hK2⟩
    obtain rfl := hE.nil
    have HD2 := Aside0.mk hD2
    have HB2 := Aside0.mk (HB1.out.trans (hK2.below hp hb HB1.out.size))
    clear hE hD2 hK2
    go_wp2_with (fail)
    refine (restart_calls p b _ k _ HD2.out).mono ?_
    rintro e w3 ⟨rfl, hD3, hK3⟩
    rw [HL1.out] at hD3
    have HD3 := Aside0.mk hD3
    have HB3 := Aside0.mk (HB2.out.trans (hK3.below hp hb HB2.out.size))
    clear hD3 hK3
    go_wp2_with (fail)
    refine (put_calls p b (s2F before k) sF text _ HD3.out (by decide) (by omega)).mono ?_
    rintro e w4 ⟨v4, rfl, hE4, hD4, hK4⟩
    have HD4 := Aside0.mk hD4
    have HB4 := Aside0.mk (HB3.out.trans (hK4.below hp hb HB3.out.size))
    clear hE4 hD4 hK4
    go_wp2_with (fail)
    refine (restart_calls p b _ (-1) _ HD4.out).mono ?_
    rintro e w5 ⟨rfl, hD5, hK5⟩
    rw [HY1.out] at hD5
    have HD5 := Aside0.mk hD5
    have HB5 := Aside0.mk (HB4.out.trans (hK5.below hp hb HB4.out.size))
    clear hD5 hK5
    go_wp2_with (fail)
    refine (read_calls p b _ sF _ HD5.out (by decide)).mono ?_
    rw [there_one, if_pos rfl, show lkD (St.L ⟨[(sF, y)], -1, 0, false⟩) sF = y from lkD_one y, HY2.out]
    rintro e w6 ⟨v6, rfl, hE6, hb6⟩
    obtain rfl := hE6.nil
    have HB6 := Aside0.mk (below_step HB5.out hb6)
    clear hE6 hb6
    go_wp2_with (fail)
    go_ret
    exact ⟨rfl, HB6.out⟩
end Go.Proofs.YtcbgeakabchenaaDoor.D

/- The walk of alive. -/
import Derived.Test.YtcbgeakabchenaaDoorRemB
namespace Go.Proofs.YtcbgeakabchenaaDoor.D
open Go.RowKit Go.Extern.Stop Go.Stop Go.Extern Go.Proofs.YtcbgeakabchenaaDoorW.PrintWords Go.Proofs.YtcbgeakabchenaaDoorW.PrintLast Go.Proofs.YtcbgeakabchenaaDoorW.PrintMore
set_option linter.unusedVariables false
set_option linter.unusedSimpArgs false
theorem FC.kept {w w1 : World} {e c p b : Nat} {name : ByteArray} (h : FC w e c name) (hk : Kp p b w w1) (h1 : e ≠ p) (h2 : e ≠ b) : FC w1 e c name := by
  have hl := h.lt
  have ne : ∀ o, w1.cell? ⟨e, o, none⟩ = w.cell? ⟨e, o, none⟩ := fun o => hk.cell hl h1 h2
  exact ⟨(ne 0).trans h.1, (ne 1).trans h.2.1, (ne 2).trans h.2.2.1, (ne 3).trans h.2.2.2⟩
theorem Er.kept {w w1 : World} {lo c p b : Nat} {v : Value} {name : ByteArray} (h : Er w lo v c name) (hk : Kp p b w w1) (h1 : p < lo) (h2 : b < lo) : Er w1 lo v c name := by
  rcases h with h | ⟨hc, g, rfl, hg, hl, hF⟩
  · exact .inl h
  · exact .inr ⟨hc, g, rfl, hg, Nat.lt_of_lt_of_le hl hk.size, hF.kept hk (by omega) (by omega)⟩
theorem Er.below {w w1 : World} {lo c : Nat} {v : Value} {name : ByteArray} (h : Er w lo v c name) (hb : Below w.heap.size w w1) : Er w1 lo v c name := by
  rcases h with h | ⟨hc, g, rfl, hg, hl, hF⟩
  · exact .inl h
  · exact .inr ⟨hc, g, rfl, hg, Nat.lt_of_lt_of_le hl hb.size, hF.below hb⟩
/-- The test of an error that is as it is told. -/
theorem isE_calls (w : World) (lo c : Nat) (v : Value) (name : ByteArray) (h : Er w lo v c name) (hG : GE w) (hc : c < 100) (hn : name.size ≤ 140737488351232) :
    Calls Tryd.prog 11 #[v, .int .i64 c, .string name, .int .i64 (-1)] w fun ev w' => ev = .returned (.bool true) ∧ Below w.heap.size w w' := by
  rcases h with ⟨rfl, rfl⟩ | ⟨h0, g, rfl, _, _, hF⟩
  · refine (isNo_calls w name (-1)).mono ?_
    rintro e w' ⟨rfl, rfl⟩
    exact ⟨rfl, Below.refl _ _⟩
  · exact is_ok g c name w hF hG h0 hc hn
abbrev sA : ByteArray := ⟨#[97]⟩
abbrev sB : ByteArray := ⟨#[98]⟩
abbrev sX : ByteArray := ⟨#[48, 49, 50, 51, 52, 53, 54, 55, 56, 57, 48, 49, 50, 51, 52, 53, 54, 55, 56, 57, 48, 49, 50, 51, 52, 53, 54, 55, 56, 57, 48, 49, 50, 51, 52, 53, 54, 55, 56, 57]⟩
theorem alive_app : appendF ⟨[], 1, 0, false⟩ sA sX = (⟨lay [] sA (lkD [] sA ++ sX.extract 0 32), 1, 1, true⟩, 5) := by
  have h1 : addF ⟨[], 1, 0, false⟩ sA sX = (⟨lay [] sA (lkD [] sA ++ sX.extract 0 32), 1, 1, true⟩, false) := by
    have hw : wrap64 (0 + 1) = 1 := by unfold wrap64; omega
    have hp : pieceS ⟨[], 1, 0, false⟩ sA (sX.extract 0 32) = ⟨lay [] sA (lkD [] sA ++ sX.extract 0 32), 1, 1, false⟩ := by
      unfold pieceS
      rw [hw]
    rw [addF, if_pos (by decide), if_neg (by decide), hp, addF, if_neg (by decide)]
  unfold appendF
  rw [h1]
  rfl
set_option maxHeartbeats 32000000 in
set_option maxRecDepth 100000 in
theorem alive_calls (w : World) (hG : GE w) : Calls Tryd.prog 4 #[] w fun e w' => e = .returned (.bool true) ∧ Below w.heap.size w w' := by
  have HG := Aside0.mk hG
  clear hG
  go_enter Tryd.func4, Tryd.ntmps4
  go_wp2_with (fail)
  refine (new_calls 1 _).mono ?_
  rintro e w1 ⟨p, b, rfl, hp, hb, hD1, hB1⟩
  have hlp := hD1.lt
  have hlb := hD1.ltb
  have HD1 := Aside0.mk hD1
  have HB1 := Aside0.mk hB1
  clear hD1 hB1
  go_wp2_with (fail)
  refine (append_calls p b _ sA sX _ HD1.out (by decide) (by decide)).mono ?_
  rw [alive_app]
  rintro e w2 ⟨v1, rfl, hE, hD2, hK2⟩
  have HE2 := Aside0.mk hE
  have HD2 := Aside0.mk hD2
  have HB2 := Aside0.mk (HB1.out.trans (hK2.below hp hb HB1.out.size))
  have hz2 := hK2.size
  clear hE hD2 hK2
  go_wp2_with (fail)
  refine (writes_calls p b _ _ HD2.out).mono ?_
  rintro e w3 ⟨rfl, rfl⟩
  go_wp2_with (fail)
  refine (restart_calls p b _ (-1) _ HD2.out).mono ?_
  rintro e w3 ⟨rfl, hD3, hK3⟩
  have HE3 := Aside0.mk (HE2.out.kept hK3 hlp hlb)
  have HD3 := Aside0.mk hD3
  have HB3 := Aside0.mk (HB2.out.trans (hK3.below hp hb HB2.out.size))
  clear hD3 hK3 HE2 HD2
  go_wp2_with (fail)
  refine (size_calls p b _ sA _ HD3.out (by decide)).mono ?_
  rintro e w4 ⟨v4, rfl, hE4, hb4⟩
  rw [show thereC ⟨lay [] sA (lkD [] sA ++ sX.extract 0 32), -1, 0, false⟩ sA = 0 from by decide] at hE4
  have hv4 : v4 = .nilIface := by
    rcases hE4 with ⟨_, h⟩ | ⟨h, _⟩
    · exact h
    · omega
  subst hv4
  have HE4 := Aside0.mk (HE3.out.below hb4)
  have HD4 := Aside0.mk (HD3.out.below hb4)
  have HB4 := Aside0.mk (below_step HB3.out hb4)
  have hsz : (if thereC ⟨lay [] sA (lkD [] sA ++ sX.extract 0 32), -1, 0, false⟩ sA = 0 then lkD (lay [] sA (lkD [] sA ++ sX.extract 0 32)) sA else ⟨#[]⟩).size = 32 := by
    rw [if_pos (by decide), lkD_lay]
    rfl
  clear hE4 hb4 HE3 HD3
  generalize hq : (if thereC ⟨lay [] sA (lkD [] sA ++ sX.extract 0 32), -1, 0, false⟩ sA = 0 then lkD (lay [] sA (lkD [] sA ++ sX.extract 0 32)) sA else ⟨#[]⟩).size = n at *
  subst hsz
  clear hq
  go_wp2_with (fail)
  refine (isE_calls _ _ 5 v1 sA HE4.out (HG.out.below HB4.out) (by decide) (by decide)).mono ?_
  rintro e w5 ⟨rfl, hb5⟩
  have HD5 := Aside0.mk (HD4.out.below hb5)
  have HB5 := Aside0.mk (below_step HB4.out hb5)
  clear hb5 HE4 HD4
  go_wp2_with (fail)
  refine (remove_calls p b _ sB _ HD5.out (by decide)).mono ?_
  rw [show removeF ⟨lay [] sA (lkD [] sA ++ sX.extract 0 32), -1, 0, false⟩ sB = (⟨lay [] sA (lkD [] sA ++ sX.extract 0 32), -1, 0, false⟩, 6) from rfl]
  rintro e w6 ⟨v6, rfl, hE6, hD6, hK6⟩
  have HE6 := Aside0.mk hE6
  have HB6 := Aside0.mk (HB5.out.trans (hK6.below hp hb HB5.out.size))
  clear hE6 hD6 hK6
  go_wp2_with (fail)
  refine (isE_calls _ _ 6 v6 sB HE6.out (HG.out.below HB6.out) (by decide) (by decide)).mono ?_
  rintro e w7 ⟨rfl, hb7⟩
  have HB7 := Aside0.mk (below_step HB6.out hb7)
  clear hb7
  go_wp2_with (fail)
  go_ret
  exact ⟨rfl, HB7.out⟩
end Go.Proofs.YtcbgeakabchenaaDoor.D

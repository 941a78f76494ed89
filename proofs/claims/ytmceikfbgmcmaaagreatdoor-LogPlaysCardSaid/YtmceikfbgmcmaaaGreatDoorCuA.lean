/- The law's own test of a log's records. -/
import Derived.Test.YtmceikfbgmcmaaaGreatDoorAlB
namespace Go.Proofs.YtmceikfbgmcmaaaGreatDoor.D
open Go.RowKit Go.Extern.Stop Go.Stop Go.Extern Go.Proofs.YtmceikfbgmcmaaaGreatDoorW.PrintWords Go.Proofs.YtmceikfbgmcmaaaGreatDoorW.PrintLast Go.Proofs.YtmceikfbgmcmaaaGreatDoorW.PrintMore
set_option linter.unusedVariables false
set_option linter.unusedSimpArgs false
theorem own_nq {w : World} {B n q : Nat} {v : Value} {xs : List Value} (h : w.ownsRow B 9 1 v n xs) {cs : Array Value} {ty : TypeId} {fz : Nat × Nat} (hq : w.heap[q]? = some (.cells cs ty fz)) (ht : ty ≠ 9) : v.ownBlock ≠ some q :=
  own_apart h hq (fun cur e => by injection e with _ e _; exact ht e)
theorem own_ka {X : Nat → Prop} {w w' : World} {B n : Nat} {v : Value} {xs : List Value} (h : w.ownsRow B 9 1 v n xs) (hk : Ka X w w') (hx : ∀ g, v.ownBlock = some g → ¬ X g) : w'.ownsRow B 9 1 v n xs := by
  obtain ⟨h1, h2⟩ := h
  refine ⟨h1, ?_⟩
  rcases h2 with h2 | ⟨g, cap, cur, rfl, c1, c2, c3⟩
  · exact .inl h2
  · exact .inr ⟨g, cap, cur, rfl, c1, (hk.block g (Array.getElem?_eq_some_iff.1 c2).1 (hx g rfl)).trans c2, c3⟩
set_option maxHeartbeats 16000000 in
set_option maxRecDepth 100000 in
theorem says_false {B q p : Nat} {lv : Value} {recs : List BL} {br : Bool} (a : Option Addr) (n c : Nat) (w : World) (h : LG w B q p lv recs br) (hn : recs.length ≠ n) : Calls Tryz.prog 18 #[.pointer (some ⟨q, 0, none⟩), .slice a n c] w fun e w' => e = .returned (.bool false) ∧ w = w' := by
  have HL := Aside0.mk (len_calls w h)
  obtain ⟨m, hm⟩ : ∃ m, recs.length = m := ⟨_, rfl⟩
  rw [hm] at HL hn
  have hne : ¬ (m : Int) = (n : Int) := by omega
  have e0 := eqP
  clear h hm hn
  go_enter Tryz.func18, Tryz.ntmps18
  go_wp2_with (fail)
  refine HL.out.mono ?_
  rintro e w1 ⟨rfl, rfl⟩
  go_wp2_with (fail)
  go_ret
  exact ⟨rfl, rfl⟩
set_option maxHeartbeats 16000000 in
set_option maxRecDepth 100000 in
theorem says_true {B q p : Nat} {lv : Value} {recs : List BL} {br : Bool} (a : Option Addr) (n c : Nat) (w : World) (h : LG w B q p lv recs br) (hn : recs.length = n) (hs : ∀ i x, recs[i]? = some x → ∃ g, a = some ⟨g, 0, none⟩ ∧ w.cell? ⟨g, i, none⟩ = some (encS x)) : Calls Tryz.prog 18 #[.pointer (some ⟨q, 0, none⟩), .slice a n c] w fun e w' => e = .returned (.bool true) ∧ Below w.heap.size w w' := by
  have HL := Aside0.mk (len_calls w h)
  have HF := Aside0.mk (from_calls 0 w h)
  rw [show (if (recs.length : Int) ≤ 0 then [] else recs.drop (0 : Int).toNat) = recs by
    split
    · exact (List.eq_nil_of_length_eq_zero (by omega)).symm
    · simp] at HF
  have HS := Aside0.mk hs
  have HN := Aside0.mk hn
  have hlim := h.2.2
  rw [hn] at HL hlim
  have e0 := eqP
  clear h hn hs
  go_enter Tryz.func18, Tryz.ntmps18
  go_wp2_with (fail)
  refine HL.out.mono ?_
  rintro e w1 ⟨rfl, rfl⟩
  go_wp2_with (fail)
  refine HF.out.mono ?_
  rintro e w1 ⟨v5, rfl, hF, hb1⟩
  obtain ⟨a5, c5, rfl⟩ : ∃ a5 c5, v5 = .slice a5 n c5 := by
    have := HN.out
    rcases hF with ⟨rfl, rfl⟩ | ⟨g, cap, cur, rfl, _⟩
    · exact ⟨none, 0, by rw [← this]; rfl⟩
    · exact ⟨_, _, by rw [this]⟩
  have HFR := Aside0.mk hF
  have HB1 := Aside0.mk hb1
  clear hF hb1
  go_wp2_with (fail)
  go_loopw [6] (fun v6 wr => ∃ i : Nat, i ≤ n ∧ v6 = .int .i64 i ∧ Aside0 (Below w1.heap.size w1 wr)) (fun v6 _ => n - (intOf v6).toNat)
  case atStart => exact ⟨0, Nat.zero_le _, rfl, ⟨Below.refl _ _⟩⟩
  case round =>
    obtain ⟨i, hi, rfl, HW⟩ := hrel
    by_cases h1 : i < n
    · have h1' : (i : Int) < (n : Int) := by omega
      have h0' : (0 : Int) ≤ (i : Int) := by omega
      have hl := HN.out
      obtain ⟨x, hx⟩ : ∃ x, recs[i]? = some x := ⟨_, List.getElem?_eq_getElem (by omega)⟩
      obtain ⟨g, rfl, c1⟩ := HS.out i x hx
      have c2 := pw_cell_below (below_step (w := w) HB1.out HW.out) c1
      obtain ⟨g5, rfl, c3⟩ : ∃ g5, a5 = some ⟨g5, 0, none⟩ ∧ wr.cell? ⟨g5, i, none⟩ = some (encS x) := by
        rcases HFR.out with ⟨_, e⟩ | ⟨g5, cap, cur, e, _, hh, _, hc⟩
        · rw [e] at hl; simp at hl; omega
        · injection e with e
          refine ⟨g5, e, pw_cell_below HW.out ?_⟩
          rw [cell_of_row _ _ _ _ _ _ hh]
          exact hc i x hx
      unfold encS at c2 c3
      obtain ⟨y, hy⟩ : ∃ y, mkB x = y := ⟨_, rfl⟩
      rw [hy] at c2 c3
      have hwr : wrap64 ((i : Int) + 1) = (i : Int) + 1 := wrap_small _ (by omega) (by omega)
      clear hx hy c1 hl
      go_wp2_with (fail)
      go_quiet (fail)
      go_wp2_with (fail)
      exact ⟨⟨i + 1, by omega, by simp, ⟨pw_below_drewN HW.out _⟩⟩, by simp [intOf]; omega⟩
    · have h1' : ¬ (i : Int) < (n : Int) := by omega
      go_wp2_with (fail)
      go_ret
      exact ⟨rfl, below_step (w := w) HB1.out HW.out⟩
end Go.Proofs.YtmceikfbgmcmaaaGreatDoor.D

/- Append and Open of a whole log. -/
import Derived.Test.YtmceikfbgmcmaaaGreatDoorHoP
import Derived.Test.YtmceikfbgmcmaaaGreatDoorOpC
namespace Go.Proofs.YtmceikfbgmcmaaaGreatDoor.D
open Go.RowKit Go.Extern.Stop Go.Stop Go.Extern Go.Proofs.YtmceikfbgmcmaaaGreatDoorW.PrintWords Go.Proofs.YtmceikfbgmcmaaaGreatDoorW.PrintLast Go.Proofs.YtmceikfbgmcmaaaGreatDoorW.PrintMore
set_option linter.unusedVariables false
set_option linter.unusedSimpArgs false
/-- What the world must hold. -/
def GW (w : World) : Prop := GE w ∧ GT w ∧ GS w
theorem GW.below {w w1 : World} (h : GW w) (hb : Below w.heap.size w w1) : GW w1 := ⟨h.1.below hb, h.2.1.below hb, h.2.2.below hb⟩
theorem Ka.low {X : Nat → Prop} {u v : World} {n : Nat} (h : Ka X u v) (hX : ∀ k, X k → n ≤ k) (hn : n ≤ u.heap.size) : Below n u v :=
  ⟨h.os, h.tape, h.output, h.size, fun k hk => h.block k (by omega) (fun q => by have := hX k q; omega)⟩
theorem LG.ne {w : World} {B q p b : Nat} {lv : Value} {recs : List BL} {br : Bool} (h : LG w B q p lv recs br) (hp : p < B) (hb : b < B) : ∀ g, lv.ownBlock = some g → g ≠ p ∧ g ≠ b ∧ g ≠ q := fun g hg => by
  have h1 := own_low h.2.1 hg
  have h2 := own_apart h.2.1 h.1 (fun cur e => by injection e with _ e _; exact absurd e (by decide))
  exact ⟨by omega, by omega, fun e => h2 (e ▸ hg)⟩
theorem LG.kept {w w' : World} {B q p b : Nat} {lv : Value} {recs : List BL} {br : Bool} (h : LG w B q p lv recs br) (hp : p < B) (hb : b < B) (hq : B ≤ q) (hk : Kp p b w w') : LG w' B q p lv recs br :=
  h.kp hk (by omega) (by omega) (fun g e => ⟨(h.ne hp hb g e).1, (h.ne hp hb g e).2.1⟩)
/-- Append of a whole log. -/
theorem lapp_calls (p b B q B0 : Nat) (s : St) (lv : Value) (recs : List BL) (ex : Bool) (x : ByteArray) (w : World) (hD : DK w p b s) (hL : LG w B q p lv recs false) (hpB : p < B) (hbB : b < B) (hqB : B ≤ q) (hBw : B ≤ w.heap.size) (hH : Hold s.L recs ex []) (hd : s.dead = false) (hx : x.size ≤ 300) (hn : recs.length < 10000) (hT : ∀ W, Below w.heap.size w W → GT W) (h0p : B0 ≤ p) (h0b : B0 ≤ b) :
    Calls Tryz.prog 11 #[.pointer (some ⟨q, 0, none⟩), .string x] w fun e w' => ∃ v s' lv' recs' br', e = .returned v ∧ DK w' p b s' ∧ LG w' B q p lv' recs' br' ∧ Below B0 w w' ∧ Ka (fun k => k = p ∨ k = b ∨ B ≤ k) w w' ∧
      ((v = .nilIface ∧ recs' = recs ++ [tl x] ∧ br' = false ∧ s'.dead = false ∧ s'.cut = s.cut ∧ ∃ ex', Hold s'.L (recs ++ [tl x]) ex' []) ∨
       ((∃ g, v = .iface 98 (.pointer (some ⟨g, 0, none⟩))) ∧ recs' = recs ∧ s'.dead = true ∧ ¬ s.cut < 0 ∧ ∃ ex' t, Hold s'.L recs ex' t ∧ recsF t = [])) := by
  refine (lappend_calls p b B q s lv recs false x w hD hL (by omega) (by omega) (hL.ne hpB hbB) hBw hT (by omega)).mono ?_
  rintro e w' ⟨v, rfl, hE, hD', ⟨lv', hL', _⟩, hK⟩
  have hB0 : Below B0 w w' := hK.low (fun k hk => by
    rcases hk with rfl | rfl | rfl | hk
    · exact h0p
    · exact h0b
    · omega
    · have := own_low hL.2.1 hk
      omega) (by omega)
  have hKa : Ka (fun k => k = p ∨ k = b ∨ B ≤ k) w w' := ⟨hK.os, hK.tape, hK.output, hK.size, fun k hk hx => hK.block k hk (fun q => by
    rcases q with rfl | rfl | rfl | q
    · exact hx (.inl rfl)
    · exact hx (.inr (.inl rfl))
    · exact hx (.inr (.inr hqB))
    · exact hx (.inr (.inr (own_low hL.2.1 q))))⟩
  rcases app_hold x hd hH hx hn with ⟨s', e, h1, h2, h3⟩ | ⟨s', nm, e, h1, h2, h3⟩
  · rw [e] at hE hD' hL'
    refine ⟨v, s', lv', _, _, rfl, hD', hL', hB0, hKa, .inl ⟨?_, rfl, rfl, h1, h2, h3⟩⟩
    rcases hE with ⟨_, h⟩ | ⟨h, _⟩
    · exact h
    · exact absurd h (Nat.lt_irrefl 0)
  · rw [e] at hE hD' hL'
    refine ⟨v, s', lv', _, _, rfl, hD', hL', hB0, hKa, .inr ⟨?_, rfl, h1, h2, h3⟩⟩
    rcases hE with ⟨h, _⟩ | ⟨_, g, h, _⟩
    · exact absurd (show (5 : Nat) = 0 from h) (by decide)
    · exact ⟨g, h⟩
/-- Open of what a log's calls left. -/
theorem lopen_calls (p b : Nat) (s : St) (recs : List BL) (ex : Bool) (t : BL) (w : World) (hD : DK w p b s) (hd : s.dead = false) (hH : Hold s.L recs ex t) (ht : recsF t = []) (hT : ∀ W, Kp p b w W → GT W ∧ GS W) :
    Calls Tryz.prog 7 #[.pointer (some ⟨p, 0, none⟩)] w fun e w' => Kp p b w w' ∧
      ((∃ s' ex' lv, e = .returned (.tuple #[.pointer (some ⟨w.heap.size + 1, 0, none⟩), .nilIface]) ∧ DK w' p b s' ∧ s'.dead = false ∧ Hold s'.L recs ex' [] ∧ LG w' w.heap.size (w.heap.size + 1) p lv recs false ∧ (t = [] → s' = s)) ∨
       ((∃ g, e = .returned (.tuple #[.pointer none, .iface 98 (.pointer (some ⟨g, 0, none⟩))])) ∧ DK w' p b { s with dead := true } ∧ ¬ s.cut < 0)) := by
  have hsz := hH.sz
  have hfw := hH.few
  refine (lopenLive_calls p b s w hD hd hT (by split at hsz <;> omega) (fun q hq => by
    obtain ⟨n, _, _, e⟩ := hH.names q hq
    rw [e, fileF_size]
    decide)).mono ?_
  rintro e w' ⟨h1, h2, h3⟩
  refine ⟨h2, ?_⟩
  rcases open_hold hd hH ht with ⟨s', ex', e1, h4, h5, h6⟩ | ⟨k, e1, h4⟩
  · rw [e1] at h1 h3
    rcases h3 with ⟨recs', lv, e2, rfl, hL⟩ | ⟨e2, _⟩
    · injection e2 with e2
      subst e2
      exact .inl ⟨s', ex', lv, rfl, h1, h4, h5, hL, h6⟩
    · cases e2
  · rw [e1] at h1 h3
    rcases h3 with ⟨recs', lv, e2, _⟩ | ⟨_, v, rfl, hE, _⟩
    · cases e2
    · rcases hE with ⟨e3, _⟩ | ⟨_, g, rfl, _⟩
      · exact absurd (show (5 : Nat) = 0 from e3) (by decide)
      · exact .inr ⟨⟨g, rfl⟩, h1, h4⟩
end Go.Proofs.YtmceikfbgmcmaaaGreatDoor.D

/- LogPlays: how its loop stands. -/
import Derived.Test.YtmceikfbgmcmaaaGreatDoorPlA
namespace Go.Proofs.YtmceikfbgmcmaaaGreatDoor.D
open Go.RowKit Go.Extern.Stop Go.Stop Go.Extern Go.Proofs.YtmceikfbgmcmaaaGreatDoorW.PrintWords Go.Proofs.YtmceikfbgmcmaaaGreatDoorW.PrintLast Go.Proofs.YtmceikfbgmcmaaaGreatDoorW.PrintMore
set_option linter.unusedVariables false
set_option linter.unusedSimpArgs false
/-- Both logs stand alike, or there are none. -/
def LL (B : Nat) (w : World) (p q : Nat) (v7 v9 : Value) : Prop := (v7 = .pointer none ∧ v9 = .pointer none) ∨ ∃ qa qb Ba Bb lv lv2 recs br, v7 = .pointer (some ⟨qa, 0, none⟩) ∧ v9 = .pointer (some ⟨qb, 0, none⟩) ∧ L2 B w p q qa qb Ba Bb lv lv2 recs br recs br ∧ Ba ≤ w.heap.size ∧ Bb ≤ w.heap.size
theorem LL.kp {B : Nat} {w w' : World} {p q k1 k2 : Nat} {v7 v9 : Value} (h : LL B w p q v7 v9) (hk : Kp k1 k2 w w') (h1 : Off w k1) (h2 : Off w k2) : LL B w' p q v7 v9 := by
  rcases h with h | ⟨qa, qb, Ba, Bb, lv, lv2, recs, br, e1, e2, hl, h3, h4⟩
  · exact .inl h
  · exact .inr ⟨qa, qb, Ba, Bb, lv, lv2, recs, br, e1, e2, hl.kp hk h1 h2, Nat.le_trans h3 hk.size, Nat.le_trans h4 hk.size⟩
theorem LL.bl {B : Nat} {w w' : World} {p q : Nat} {v7 v9 : Value} (h : LL B w p q v7 v9) (hb : Below w.heap.size w w') : LL B w' p q v7 v9 := by
  rcases h with h | ⟨qa, qb, Ba, Bb, lv, lv2, recs, br, e1, e2, hl, h3, h4⟩
  · exact .inl h
  · exact .inr ⟨qa, qb, Ba, Bb, lv, lv2, recs, br, e1, e2, hl.bl hb, Nat.le_trans h3 hb.size, Nat.le_trans h4 hb.size⟩
/-- The document's Open, behind the program's. -/
theorem ra_open {B : Nat} {w0 w : World} {p b q g : Nat} {s t : St} {v7 : Value} (h : Half B w0 w p b q g s t) (ha : OA B w p v7 (openF t).2.1) (hL : t.L.length ≤ 10000) :
    Calls Tryz.prog 22 #[.pointer (some ⟨q, 0, none⟩)] w fun e w' => ∃ v9 g', e = .returned (.tuple #[v9, .int .i64 ((openF t).2.2.1 : Int), .string (openF t).2.2.2]) ∧ Half B w0 w' p b q g' s (openF t).1 ∧ LL B w' p q v7 v9 ∧ Kp q g w w' := by
  have hle := h.le
  have hgd := (open_all t h.gt h.r.okf.1).1
  obtain ⟨oq, og⟩ := h.r.off
  have main : Calls Tryz.prog 22 #[.pointer (some ⟨q, 0, none⟩)] w fun e w' => ROpenP w q g t e w' := by
    cases hd : t.dead with
    | true => exact ropenDead_calls q g t w h.r hd
    | false => exact ropenLive_calls q g t w h.r hd hL
  refine main.mono ?_
  rintro e w' ⟨⟨g', h1, h2, h3⟩, h4⟩
  have hH := h.rr h1 h3 h2 hgd
  rcases h4 with ⟨recs, lv2, e1, rfl, hRG⟩ | ⟨e1, rfl, _⟩
  · have e2 : (openF t).2.2.1 = 0 ∧ (openF t).2.2.2 = ⟨#[]⟩ := open_text t (by rw [e1]; exact fun e => by cases e)
    rw [e2.1, e2.2]
    refine ⟨_, g', rfl, hH, .inr ?_, h3⟩
    rcases ha with ⟨_, e3⟩ | ⟨recs', qa, Ba, lv, e3, rfl, hLG, hb1, hb2, hb3⟩
    · rw [e1] at e3; cases e3
    · rw [e1] at e3
      injection e3 with e3
      subst e3
      obtain ⟨a1, a2⟩ := hLG.off oq
      obtain ⟨a3, a4⟩ := hLG.off og
      refine ⟨qa, w.heap.size, Ba, w.heap.size, lv, lv2, recs, false, rfl, rfl, ⟨hLG.kp h3 a1 a3 (fun x e => ⟨a2 x e, a4 x e⟩), hRG, hb1, hle, hb2, hle, fun x e e2 => ?_⟩, Nat.le_trans hb3 h3.size, h3.size⟩
      have h8 := own_up hLG.2.1 e
      have h9 := own_low hRG.2.1 e2
      omega
  · refine ⟨_, g', rfl, hH, .inl ?_, h3⟩
    rcases ha with ⟨e3, _⟩ | ⟨recs', qa, Ba, lv, e3, _⟩
    · exact ⟨e3, rfl⟩
    · rw [e1] at e3; cases e3
/-- Where the law's loop stands. -/
def PR (w : World) (p b q : Nat) (v7 v9 : Value) (m : Nat) (wr : World) : Prop := ∃ g s, Half w.heap.size w wr p b q g s s ∧ s.L.length ≤ m ∧ LL w.heap.size wr p q v7 v9
theorem PR.bl {w : World} {p b q : Nat} {v7 v9 : Value} {m : Nat} {wr w' : World} (h : PR w p b q v7 v9 m wr) (hb : Below wr.heap.size wr w') : PR w p b q v7 v9 m w' := by
  obtain ⟨g, s, h1, h2, h3⟩ := h
  exact ⟨g, s, h1.b hb, h2, h3.bl hb⟩
theorem PR.le {w : World} {p b q : Nat} {v7 v9 : Value} {m n : Nat} {wr : World} (h : PR w p b q v7 v9 m wr) (hm : m ≤ n) : PR w p b q v7 v9 n wr := by
  obtain ⟨g, s, h1, h2, h3⟩ := h
  exact ⟨g, s, h1, Nat.le_trans h2 hm, h3⟩
theorem PR.below {w : World} {p b q : Nat} {v7 v9 : Value} {m : Nat} {wr : World} (h : PR w p b q v7 v9 m wr) : Below w.heap.size w wr := by
  obtain ⟨g, s, h1, _⟩ := h
  exact h1.below
/-- A step of the script, in a variable of the round's own. -/
def SV (w : World) (st : Nat) (D N : Int) (T : ByteArray) : Prop := w.heap[st]? = some (.cells #[.int .i64 D, .int .i64 N, .string T] 52 (0, 0))
theorem SV.cells {w : World} {st : Nat} {D N : Int} {T : ByteArray} (h : SV w st D N T) : w.cell? ⟨st, 0, none⟩ = some (.int .i64 D) ∧ w.cell? ⟨st, 1, none⟩ = some (.int .i64 N) ∧ w.cell? ⟨st, 2, none⟩ = some (.string T) := by
  unfold SV at h
  refine ⟨?_, ?_, ?_⟩
  · rw [cell_of_row _ _ _ _ _ _ h]; rfl
  · rw [cell_of_row _ _ _ _ _ _ h]; rfl
  · rw [cell_of_row _ _ _ _ _ _ h]; rfl
theorem SV.bl {w w' : World} {st : Nat} {D N : Int} {T : ByteArray} (h : SV w st D N T) (hb : Below w.heap.size w w') : SV w' st D N T := (hb.block st (Array.getElem?_eq_some_iff.1 h).1).trans h
theorem SV.ne {w : World} {st k : Nat} {D N : Int} {T : ByteArray} (h : SV w st D N T) {cs : Array Value} {t : TypeId} {fz : Nat × Nat} (hk : w.heap[k]? = some (.cells cs t fz)) (ht : t ≠ 52) : st ≠ k := fun e => by
  subst e
  unfold SV at h
  rw [h] at hk
  injection hk with hk
  injection hk with _ hk _
  exact ht hk.symm
theorem SV.dk {w : World} {st p b : Nat} {s : St} {D N : Int} {T : ByteArray} (h : SV w st D N T) (k : DK w p b s) : st ≠ p ∧ st ≠ b := by
  refine ⟨h.ne k.1 (by decide), fun e => ?_⟩
  subst e
  obtain ⟨M, ⟨es, clock, h1, _⟩, _⟩ := k.2.1
  unfold SV at h
  rw [h] at h1
  cases h1
theorem SV.rk {w : World} {st q g : Nat} {s : St} {D N : Int} {T : ByteArray} (h : SV w st D N T) (k : RK w q g s) : st ≠ q ∧ st ≠ g := by
  have hq : st ≠ q := by
    obtain ⟨u, hu, _⟩ := k
    exact h.ne hu (by decide)
  refine ⟨hq, ?_⟩
  rcases k.ge with e | ⟨cur, hc⟩
  · rw [e]; exact hq
  · exact h.ne hc (by decide)
theorem SV.own {w : World} {st B n : Nat} {v : Value} {xs : List Value} {D N : Int} {T : ByteArray} (h : SV w st D N T) (k : w.ownsRow B 9 1 v n xs) : v.ownBlock ≠ some st := own_nq k h (by decide)
theorem SV.ka {X : Nat → Prop} {w w' : World} {st : Nat} {D N : Int} {T : ByteArray} (h : SV w st D N T) (hk : Ka X w w') (hx : ¬ X st) : SV w' st D N T := (hk.block st (Array.getElem?_eq_some_iff.1 h).1 hx).trans h
/-- The program's Append in the law's loop. -/
theorem SV.append {B : Nat} {w0 w w' : World} {st p b q g qa qb Ba Bb : Nat} {s t : St} {lv lv2 : Value} {recs recs2 : List BL} {br br2 : Bool} {D N : Int} {T : ByteArray} (v : SV w st D N T) (h : Half B w0 w p b q g s t) (l : L2 B w p q qa qb Ba Bb lv lv2 recs br recs2 br2) (hk : Ka (fun k => k = p ∨ k = b ∨ k = qa ∨ lv.ownBlock = some k) w w') : SV w' st D N T :=
  v.ka hk (by
    rintro (e | e | e | e)
    · exact (v.dk h.d).1 e
    · exact (v.dk h.d).2 e
    · exact v.ne l.a.1 (by decide) e
    · exact v.own l.a.2.1 e)
theorem SV.rappend {B : Nat} {w0 w w' : World} {st p b q g qa qb Ba Bb : Nat} {s t : St} {lv lv2 : Value} {recs recs2 : List BL} {br br2 : Bool} {D N : Int} {T : ByteArray} (v : SV w st D N T) (h : Half B w0 w p b q g s t) (l : L2 B w p q qa qb Ba Bb lv lv2 recs br recs2 br2) (hk : Ka (fun k => k = q ∨ k = g ∨ k = qb ∨ lv2.ownBlock = some k) w w') : SV w' st D N T :=
  v.ka hk (by
    rintro (e | e | e | e)
    · exact (v.rk h.r).1 e
    · exact (v.rk h.r).2 e
    · exact v.ne l.b.1 (by decide) e
    · exact v.own l.b.2.1 e)
theorem SV.kd {w w' : World} {st p b : Nat} {s : St} {D N : Int} {T : ByteArray} (v : SV w st D N T) (h : DK w p b s) (hk : Kp p b w w') : SV w' st D N T := v.ka (Ka.kp (X := fun k => k = p ∨ k = b) hk (.inl rfl) (.inr rfl)) (by
  rintro (e | e)
  · exact (v.dk h).1 e
  · exact (v.dk h).2 e)
theorem SV.kr {w w' : World} {st q g : Nat} {s : St} {D N : Int} {T : ByteArray} (v : SV w st D N T) (h : RK w q g s) (hk : Kp q g w w') : SV w' st D N T := v.ka (Ka.kp (X := fun k => k = q ∨ k = g) hk (.inl rfl) (.inr rfl)) (by
  rintro (e | e)
  · exact (v.rk h).1 e
  · exact (v.rk h).2 e)
theorem Er.ka {X : Nat → Prop} {w w' : World} {lo c : Nat} {v : Value} {name : ByteArray} (h : Er w lo v c name) (hk : Ka X w w') (hx : ∀ k, X k → k < lo) : Er w' lo v c name := by
  rcases h with h | ⟨h1, e, rfl, h2, h3, h4⟩
  · exact .inl h
  · have hb : w'.heap[e]? = w.heap[e]? := hk.block e h3 (fun q => by have := hx e q; omega)
    have hc : ∀ o, w'.cell? ⟨e, o, none⟩ = w.cell? ⟨e, o, none⟩ := fun o => World.cell?_of_block (w := w) (a := ⟨e, o, none⟩) hb
    exact .inr ⟨h1, e, rfl, h2, Nat.lt_of_lt_of_le h3 hk.size, (hc 0).trans h4.1, (hc 1).trans h4.2.1, (hc 2).trans h4.2.2.1, (hc 3).trans h4.2.2.2⟩
end Go.Proofs.YtmceikfbgmcmaaaGreatDoor.D

/- Both logs, both disks. -/
import Derived.Test.YtmceikfbgmcmaaaGreatDoorPlP
import Derived.Test.YtmceikfbgmcmaaaGreatDoorRgB
import Derived.Test.YtmceikfbgmcmaaaGreatDoorRoB
import Derived.Test.YtmceikfbgmcmaaaGreatDoorAlB
import Derived.Test.YtmceikfbgmcmaaaGreatDoorCuA
namespace Go.Proofs.YtmceikfbgmcmaaaGreatDoor.D
open Go.RowKit Go.Extern.Stop Go.Stop Go.Extern Go.Proofs.YtmceikfbgmcmaaaGreatDoorW.PrintWords Go.Proofs.YtmceikfbgmcmaaaGreatDoorW.PrintLast Go.Proofs.YtmceikfbgmcmaaaGreatDoorW.PrintMore
set_option linter.unusedVariables false
set_option linter.unusedSimpArgs false
theorem own_up {w : World} {B n g : Nat} {v : Value} {xs : List Value} (h : w.ownsRow B 9 1 v n xs) (hg : v.ownBlock = some g) : g < w.heap.size := by
  rcases h.2 with ⟨rfl, h0⟩ | ⟨g', cap, cur, rfl, hb, c2, _⟩
  · simp [Value.ownBlock] at hg
  · have e' : g' = g := by simpa [Value.ownBlock] using hg
    rw [← e']
    exact (Array.getElem?_eq_some_iff.1 c2).1
/-- The block k holds neither a log nor texts. -/
def Off (w : World) (k : Nat) : Prop := ∃ o, w.heap[k]? = some o ∧ (∀ cs, o ≠ .cells cs 70 (0, 0)) ∧ (∀ cs, o ≠ .cells cs 56 (0, 0)) ∧ ∀ cs, o ≠ .cells cs 9 (0, 0)
theorem off_cells {w : World} {k : Nat} {cs : Array Value} {t : TypeId} (h : w.heap[k]? = some (.cells cs t (0, 0))) (h1 : t ≠ 70) (h2 : t ≠ 56) (h3 : t ≠ 9) : Off w k :=
  ⟨_, h, fun _ e => by injection e with _ e _; exact h1 e, fun _ e => by injection e with _ e _; exact h2 e, fun _ e => by injection e with _ e _; exact h3 e⟩
theorem DK.off {w : World} {p b : Nat} {s : St} (h : DK w p b s) : Off w p ∧ Off w b := by
  refine ⟨off_cells h.1 (by decide) (by decide) (by decide), ?_⟩
  obtain ⟨M, ⟨es, clock, h1, _⟩, _⟩ := h.2.1
  exact ⟨_, h1, (fun _ e => by cases e), (fun _ e => by cases e), (fun _ e => by cases e)⟩
theorem RK.off {w : World} {q g : Nat} {s : St} (h : RK w q g s) : Off w q ∧ Off w g := by
  have hq : Off w q := by
    obtain ⟨u, hu, _⟩ := h
    exact off_cells hu (by decide) (by decide) (by decide)
  refine ⟨hq, ?_⟩
  rcases h.ge with e | ⟨cur, hc⟩
  · rw [e]; exact hq
  · exact off_cells hc (by decide) (by decide) (by decide)
theorem LG.off {w : World} {B q p k : Nat} {lv : Value} {recs : List BL} {br : Bool} (h : LG w B q p lv recs br) (ho : Off w k) : q ≠ k ∧ ∀ x, lv.ownBlock = some x → x ≠ k := by
  obtain ⟨o, h1, h2, h3, h4⟩ := ho
  refine ⟨fun e => ?_, fun x hx e => ?_⟩
  · subst e
    rw [h.1] at h1
    injection h1 with h1
    exact h2 _ h1.symm
  · subst e
    exact own_apart h.2.1 h1 (fun cur e => h4 cur e) hx
theorem RG.off {w : World} {B q p k : Nat} {lv : Value} {recs : List BL} {br : Bool} (h : RG w B q p lv recs br) (ho : Off w k) : q ≠ k ∧ ∀ x, lv.ownBlock = some x → x ≠ k := by
  obtain ⟨o, h1, h2, h3, h4⟩ := ho
  refine ⟨fun e => ?_, fun x hx e => ?_⟩
  · subst e
    rw [h.1] at h1
    injection h1 with h1
    exact h3 _ h1.symm
  · subst e
    exact own_apart h.2.1 h1 (fun cur e => h4 cur e) hx
theorem LG.ka {X : Nat → Prop} {w w' : World} {B q p : Nat} {lv : Value} {recs : List BL} {br : Bool} (h : LG w B q p lv recs br) (hk : Ka X w w') (h1 : ¬ X q) (h2 : ∀ x, lv.ownBlock = some x → ¬ X x) : LG w' B q p lv recs br :=
  ⟨(hk.block q (Array.getElem?_eq_some_iff.1 h.1).1 h1).trans h.1, own_ka h.2.1 hk h2, h.2.2⟩
theorem RG.ka {X : Nat → Prop} {w w' : World} {B q p : Nat} {lv : Value} {recs : List BL} {br : Bool} (h : RG w B q p lv recs br) (hk : Ka X w w') (h1 : ¬ X q) (h2 : ∀ x, lv.ownBlock = some x → ¬ X x) : RG w' B q p lv recs br :=
  ⟨(hk.block q (Array.getElem?_eq_some_iff.1 h.1).1 h1).trans h.1, own_ka h.2.1 hk h2, h.2.2⟩
/-- Both logs. -/
structure L2 (B : Nat) (w : World) (p q qa qb : Nat) (Ba Bb : Nat) (lv lv2 : Value) (recs : List BL) (br : Bool) (recs2 : List BL) (br2 : Bool) : Prop where
  a : LG w Ba qa p lv recs br
  b : RG w Bb qb q lv2 recs2 br2
  ba : B ≤ Ba
  bb : B ≤ Bb
  qa : B ≤ qa
  qb : B ≤ qb
  sep : ∀ x, lv.ownBlock = some x → lv2.ownBlock ≠ some x
theorem L2.ne {B : Nat} {w : World} {p q qa qb Ba Bb : Nat} {lv lv2 : Value} {recs recs2 : List BL} {br br2 : Bool} (h : L2 B w p q qa qb Ba Bb lv lv2 recs br recs2 br2) : qa ≠ qb ∧ lv.ownBlock ≠ some qb ∧ lv2.ownBlock ≠ some qa ∧ lv.ownBlock ≠ some qa ∧ lv2.ownBlock ≠ some qb := by
  refine ⟨fun e => ?_, own_nq h.a.2.1 h.b.1 (by decide), own_nq h.b.2.1 h.a.1 (by decide), own_nq h.a.2.1 h.a.1 (by decide), own_nq h.b.2.1 h.b.1 (by decide)⟩
  have h1 := h.a.1
  rw [e, h.b.1] at h1
  injection h1 with h1
  injection h1 with _ h1 _
  exact absurd h1 (by decide)
theorem L2.kp {B : Nat} {w w' : World} {p q qa qb Ba Bb k1 k2 : Nat} {lv lv2 : Value} {recs recs2 : List BL} {br br2 : Bool} (h : L2 B w p q qa qb Ba Bb lv lv2 recs br recs2 br2) (hk : Kp k1 k2 w w') (h1 : Off w k1) (h2 : Off w k2) : L2 B w' p q qa qb Ba Bb lv lv2 recs br recs2 br2 := by
  obtain ⟨a1, a2⟩ := h.a.off h1
  obtain ⟨a3, a4⟩ := h.a.off h2
  obtain ⟨b1, b2⟩ := h.b.off h1
  obtain ⟨b3, b4⟩ := h.b.off h2
  exact ⟨h.a.kp hk a1 a3 (fun x e => ⟨a2 x e, a4 x e⟩), h.b.kp hk b1 b3 (fun x e => ⟨b2 x e, b4 x e⟩), h.ba, h.bb, h.qa, h.qb, h.sep⟩
theorem L2.bl {B : Nat} {w w' : World} {p q qa qb Ba Bb : Nat} {lv lv2 : Value} {recs recs2 : List BL} {br br2 : Bool} (h : L2 B w p q qa qb Ba Bb lv lv2 recs br recs2 br2) (hb : Below w.heap.size w w') : L2 B w' p q qa qb Ba Bb lv lv2 recs br recs2 br2 :=
  ⟨h.a.below hb, h.b.below hb, h.ba, h.bb, h.qa, h.qb, h.sep⟩
/-- The program's Append, both logs in sight. -/
theorem la_append {B : Nat} {w0 w : World} {p b q g qa qb Ba Bb : Nat} {s t : St} {lv lv2 : Value} {recs recs2 : List BL} {br br2 : Bool} (x : ByteArray) (h : Half B w0 w p b q g s t) (l : L2 B w p q qa qb Ba Bb lv lv2 recs br recs2 br2) (hBa : Ba ≤ w.heap.size) (hT : ∀ W, Below w.heap.size w W → GT W) (hx : x.size ≤ 1000000) :
    Calls Tryz.prog 11 #[.pointer (some ⟨qa, 0, none⟩), .string x] w fun e w' => ∃ v lv', e = .returned v ∧ Er w' w.heap.size v (appG s recs br x).2.2.2.1 (appG s recs br x).2.2.2.2 ∧ Half B w0 w' p b q g (appG s recs br x).1 t ∧ L2 B w' p q qa qb Ba Bb lv' lv2 (appG s recs br x).2.1 (appG s recs br x).2.2.1 recs2 br2 ∧ Ka (fun k => k = p ∨ k = b ∨ k = qa ∨ lv.ownBlock = some k) w w' := by
  obtain ⟨op, ob⟩ := h.d.off
  obtain ⟨oq, og⟩ := h.r.off
  obtain ⟨a1, a2⟩ := l.a.off op
  obtain ⟨a3, a4⟩ := l.a.off ob
  obtain ⟨a5, a6⟩ := l.a.off oq
  obtain ⟨a7, a8⟩ := l.a.off og
  obtain ⟨b1, b2⟩ := l.b.off op
  obtain ⟨b3, b4⟩ := l.b.off ob
  obtain ⟨n1, n2, n3, n4, n5⟩ := l.ne
  refine (lappend_calls p b Ba qa s lv recs br x w h.d l.a a1 a3 (fun k e => ⟨a2 k e, a4 k e, fun e2 => n4 (e2 ▸ e)⟩) hBa hT hx).mono ?_
  rintro e w' ⟨v, rfl, hE, hD, ⟨lv', hL, ho⟩, hK⟩
  have hlow : ∀ k, (k = p ∨ k = b ∨ k = qa ∨ lv.ownBlock = some k) → B ≤ k := fun k hk => by
    rcases hk with rfl | rfl | rfl | hk
    · exact h.hp
    · exact h.hb
    · exact l.qa
    · exact Nat.le_trans l.ba (own_low l.a.2.1 hk)
  have hbel := hK.low hlow h.le
  have hg := (appG_all s recs br x h.gs h.d.2.2.1).1
  refine ⟨v, lv', rfl, hE, ⟨hD, h.r.kept' (hK.block q h.r.lt ?_) (hK.block g h.r.ltg ?_), hg, h.gt, h.hp, h.hb, h.hq, h.hg, h.n1, h.n2, h.n3, h.n4, h.below.trans hbel⟩, ⟨hL, l.b.ka hK ?_ (fun k e => ?_), l.ba, l.bb, l.qa, l.qb, fun k e e2 => ?_⟩, hK⟩
  · rintro (e | e | e | e)
    · exact h.n1 e.symm
    · exact h.n3 e.symm
    · exact a5 e.symm
    · exact a6 q e rfl
  · rintro (e | e | e | e)
    · exact h.n2 e.symm
    · exact h.n4 e.symm
    · exact a7 e.symm
    · exact a8 g e rfl
  · rintro (e | e | e | e)
    · exact b1 e
    · exact b3 e
    · exact n1 e.symm
    · exact n2 e
  · rintro (e3 | e3 | e3 | e3)
    · exact b2 k e e3
    · exact b4 k e e3
    · exact n3 (e3 ▸ e)
    · exact l.sep k e3 e
  · rcases ho with ho | ⟨y, ho, hy⟩
    · exact l.sep k (ho ▸ e) e2
    · rw [ho] at e
      injection e with e
      have := own_up l.b.2.1 e2
      omega
/-- The document's Append, both logs in sight. -/
theorem ra_append {B : Nat} {w0 w : World} {p b q g qa qb Ba Bb : Nat} {s t : St} {lv lv2 : Value} {recs recs2 : List BL} {br br2 : Bool} (x : ByteArray) (h : Half B w0 w p b q g s t) (l : L2 B w p q qa qb Ba Bb lv lv2 recs br recs2 br2) (hBb : Bb ≤ w.heap.size) (hx : x.size ≤ 1000000) :
    Calls Tryz.prog 23 #[.pointer (some ⟨qb, 0, none⟩), .string x] w fun e w' => e = .returned (.tuple #[.int .i64 ((appG t recs2 br2 x).2.2.2.1 : Int), .string (appG t recs2 br2 x).2.2.2.2]) ∧ ∃ g' lv', Half B w0 w' p b q g' s (appG t recs2 br2 x).1 ∧ L2 B w' p q qa qb Ba Bb lv lv' recs br (appG t recs2 br2 x).2.1 (appG t recs2 br2 x).2.2.1 ∧ Ka (fun k => k = q ∨ k = g ∨ k = qb ∨ lv2.ownBlock = some k) w w' := by
  obtain ⟨op, ob⟩ := h.d.off
  obtain ⟨oq, og⟩ := h.r.off
  obtain ⟨b1, b2⟩ := l.b.off op
  obtain ⟨b3, b4⟩ := l.b.off ob
  obtain ⟨a5, a6⟩ := l.a.off oq
  obtain ⟨a7, a8⟩ := l.a.off og
  obtain ⟨n1, n2, n3, n4, n5⟩ := l.ne
  refine (rlappend_calls q g Bb qb t lv2 recs2 br2 x w h.r l.b hBb hx).mono ?_
  rintro e w' ⟨rfl, g', lv', hR, hg', hL, ho, hK⟩
  have hlow : ∀ k, (k = q ∨ k = g ∨ k = qb ∨ lv2.ownBlock = some k) → B ≤ k := fun k hk => by
    rcases hk with rfl | rfl | rfl | hk
    · exact h.hq
    · exact h.hg
    · exact l.qb
    · exact Nat.le_trans l.bb (own_low l.b.2.1 hk)
  have hbel := hK.low hlow h.le
  have hpl := h.d.lt
  have hbl := h.d.ltb
  have hle := h.le
  have hgg := (appG_all t recs2 br2 x h.gt h.r.okf.1).1
  have hp : w'.heap[p]? = w.heap[p]? := hK.block p hpl (by
    rintro (e | e | e | e)
    · exact h.n1 e
    · exact h.n2 e
    · exact b1 e.symm
    · exact b2 p e rfl)
  have hb : w'.heap[b]? = w.heap[b]? := hK.block b hbl (by
    rintro (e | e | e | e)
    · exact h.n3 e
    · exact h.n4 e
    · exact b3 e.symm
    · exact b4 b e rfl)
  have hg2 : B ≤ g' ∧ p ≠ g' ∧ b ≠ g' := by
    rcases hg' with e | e
    · rw [e]; exact ⟨h.hg, h.n2, h.n4⟩
    · omega
  refine ⟨rfl, g', lv', ⟨⟨hp.trans h.d.1, h.d.2.1.kept hb, h.d.2.2⟩, hR, h.gs, hgg, h.hp, h.hb, h.hq, hg2.1, h.n1, hg2.2.1, h.n3, hg2.2.2, h.below.trans hbel⟩, ⟨l.a.ka hK ?_ (fun k e => ?_), hL, l.ba, l.bb, l.qa, l.qb, fun k e e2 => ?_⟩, hK⟩
  · rintro (e | e | e | e)
    · exact a5 e
    · exact a7 e
    · exact n1 e
    · exact n3 e
  · rintro (e3 | e3 | e3 | e3)
    · exact a6 k e e3
    · exact a8 k e e3
    · exact n2 (e3 ▸ e)
    · exact l.sep k e e3
  · rcases ho with ho | ⟨y, ho, hy⟩
    · exact l.sep k e (ho ▸ e2)
    · rw [ho] at e2
      injection e2 with e2
      have := own_up l.a.2.1 e
      omega
theorem open_code (s : St) : (openF s).2.2.1 = 0 ∨ (openF s).2.1 = none := by
  unfold openF
  split
  · exact .inr rfl
  · obtain ⟨n, recs', torn⟩ := scanF s.L (s.L.length + 1) 1 []
    simp only
    generalize cleanF n s (s.L.map (·.1)) = z
    obtain ⟨s1, oc⟩ := z
    cases oc with
    | some ck =>
      obtain ⟨c, k⟩ := ck
      exact .inr rfl
    | none =>
      cases torn with
      | none => exact .inl rfl
      | some mk =>
        obtain ⟨m, keep⟩ := mk
        simp only
        split
        · exact .inl rfl
        · exact .inr rfl
theorem open_text (s : St) (h : (openF s).2.1 ≠ none) : (openF s).2.2.1 = 0 ∧ (openF s).2.2.2 = ⟨#[]⟩ := by
  revert h
  unfold openF
  split
  · exact fun h => absurd rfl h
  · obtain ⟨n, recs', torn⟩ := scanF s.L (s.L.length + 1) 1 []
    simp only
    generalize cleanF n s (s.L.map (·.1)) = z
    obtain ⟨s1, oc⟩ := z
    cases oc with
    | some ck =>
      obtain ⟨c, k⟩ := ck
      exact fun h => absurd rfl h
    | none =>
      cases torn with
      | none => exact fun _ => ⟨rfl, rfl⟩
      | some mk =>
        obtain ⟨m, keep⟩ := mk
        simp only
        split
        · exact fun _ => ⟨rfl, rfl⟩
        · exact fun h => absurd rfl h
/-- A log of the program's, or none. -/
def OA (B : Nat) (w : World) (p : Nat) (v7 : Value) (r : Option (List BL)) : Prop := (v7 = .pointer none ∧ r = none) ∨ ∃ recs qa Ba lv, r = some recs ∧ v7 = .pointer (some ⟨qa, 0, none⟩) ∧ LG w Ba qa p lv recs false ∧ B ≤ Ba ∧ B ≤ qa ∧ Ba ≤ w.heap.size
/-- The program's Open, both disks in sight. -/
theorem la_open {B : Nat} {w0 w : World} {p b q g : Nat} {s t : St} (h : Half B w0 w p b q g s t) (hG : ∀ W, Below B w0 W → GW W) (hL : s.L.length ≤ 10000) :
    Calls Tryz.prog 7 #[.pointer (some ⟨p, 0, none⟩)] w fun e w' => ∃ v7 v8, e = .returned (.tuple #[v7, v8]) ∧ Half B w0 w' p b q g (openF s).1 t ∧ OA B w' p v7 (openF s).2.1 ∧ Er w' w.heap.size v8 (openF s).2.2.1 (openF s).2.2.2 := by
  have hle := h.le
  cases hd : s.dead with
  | true =>
    rw [open_dead hd]
    refine (lopenDead_calls p b s w h.d hd (fun W hb => (hG W (h.below.trans (hb.mono hle))).2.1)).mono ?_
    rintro e w' ⟨v, rfl, hE, hb⟩
    exact ⟨_, v, rfl, h.b hb, .inl ⟨rfl, rfl⟩, hE⟩
  | false =>
    have hall := open_all s h.gs h.d.2.2.1
    refine (lopenLive_calls p b s w h.d hd (fun W hk => (hG W (h.below.trans (hk.below h.hp h.hb hle))).2) hL (fun x hx => by
      have := h.gs x hx
      unfold badN at this
      omega)).mono ?_
    rintro e w' ⟨h1, h2, h3⟩
    rcases h3 with ⟨recs, lv, e1, rfl, hLG⟩ | ⟨e1, v, rfl, hE, _⟩
    · have e2 : (openF s).2.2.1 = 0 := by
        rcases open_code s with h9 | h9
        · exact h9
        · rw [h9] at e1; cases e1
      exact ⟨_, _, rfl, h.p h1 h2 hall.1, .inr ⟨recs, _, _, lv, e1, rfl, hLG, hle, by omega, h2.size⟩, .inl ⟨e2, rfl⟩⟩
    · exact ⟨_, v, rfl, h.p h1 h2 hall.1, .inl ⟨rfl, e1⟩, hE⟩
end Go.Proofs.YtmceikfbgmcmaaaGreatDoor.D

/- The document's copy. -/
import Derived.Test.YtcbgeakabchenaaGreatDoorRefA
import Derived.BigRegion
import Derived.Deep.RegionLaw
namespace Go.Proofs.YtcbgeakabchenaaGreatDoor.D
open Go.RowKit Go.Extern.Stop Go.Stop Go.Extern Go.Proofs.YtcbgeakabchenaaGreatDoorW.PrintWords Go.Proofs.YtcbgeakabchenaaGreatDoorW.PrintLast Go.Proofs.YtcbgeakabchenaaGreatDoorW.PrintMore
set_option linter.unusedVariables false
set_option linter.unusedSimpArgs false
theorem step_append_at {P : Program} {ops : Array Oper} {o : Oper} {a : Act} {w : World} {K : Act → World → Prop} {Q : Exit → Act → World → Prop} {E : Prop}
    (hg : o.guard = none) (s x : Operand) (t : TypeId) (hop : o.op = Op.call { callee := Callee.builtin Builtin.append, args := #[s, x], argTypes := #[t, t] })
    (base : Nat) (e : TypeId) (i : TypeInfo) (z : Value) (size bytes : Nat) (h1 : P.underlying t = some (.slice e)) (h2 : P.info? e = some i) (h3 : i.zero = some z) (h4 : i.size = size) (h5 : i.bytes = bytes) (h6 : z.cells.size = size) (h7 : 0 < size)
    (v : Value) (n : Nat) (xs : List Value) (hs : a.eval s = v) (hown : w.ownsRow base e size v n xs)
    (ad : Addr) (m c : Nat) (news : List Value) (hx : a.eval x = .slice (some ad) m c) (hn : news.length = m * size) (hc : ∀ j u, news[j]? = some u → w.cell? (ad.add j) = some u) (h1c : ∀ u ∈ news, u.oneCell' = true)
    (b1 : n + m ≤ maxLen) (b2 : (n + m) * bytes ≤ 140737488355328) (hbase : base ≤ w.heap.size)
    (hK : ∀ v' w', w'.ownsRow base e size v' (n + m) (xs ++ news) → w.grownBy w' v.ownBlock → (v' = .slice none 0 0 ↔ v = .slice none 0 0 ∧ m = 0) → K (a.put o.dst v') w') :
    if Region.wanted o (yielded ops a.tmps) = true then Oper.wp P o a w K Q else E := by
  have hw : Region.wanted o (yielded ops a.tmps) = true := by simp [Region.wanted, hg]
  rw [if_pos hw]
  obtain ⟨v', w', hr, r1, r2, r3, _⟩ := run_append_own_at (P := P) w base t o.type e i z size bytes h1 h2 h3 h4 h5 h6 h7 v n xs hown ad m c news hn hc h1c b1 b2 hbase
  unfold Oper.wp
  simp [execOp, hop, resolve, invoke, builtin, hs, hx, hr, Result.andThen]
  exact hK v' w' r1 r2 r3
theorem cp_cell {w w1 : World} {p o : Nat} {u : Value} (hp : p < w.heap.size) (hg1 : (w.drew.alloc (.cells #[] 71)).grownBy w1 (Value.slice (some ⟨w.heap.size, 0, none⟩) 0 0).ownBlock) (h : w.cell? ⟨p, o, none⟩ = some u) : w1.cell? ⟨p, o, none⟩ = some u :=
  hg1.cell ((((Below.refl w.heap.size w).alloc (Nat.le_refl _) (Obj.cells #[] 71)).cell (p := ⟨p, o, none⟩) hp).trans h) (fun e => by
    have e2 : some p = some w.heap.size := e
    injection e2 with e2
    omega)
theorem cp_own {w w1 : World} {v' : Value} {L : FS} (p : Nat) (hown : w1.ownsRow w.heap.size 71 2 v' (0 + L.length) ([] ++ flat L)) (hg1 : (w.drew.alloc (.cells #[] 71)).grownBy w1 (Value.slice (some ⟨w.heap.size, 0, none⟩) 0 0).ownBlock) (hn : v' = .slice none 0 0 ↔ Value.slice (some ⟨w.heap.size, 0, none⟩) 0 0 = .slice none 0 0 ∧ L.length = 0) : ∃ g' cap', v' = .slice (some ⟨g', 0, none⟩) L.length cap' ∧ w.heap.size ≤ g' ∧ g' < w1.heap.size ∧ RF w1 p g' (.slice (some ⟨g', 0, none⟩) L.length cap') L ∧ Below w.heap.size w w1 := by
  rw [Nat.zero_add, List.nil_append] at hown
  rcases hown.2 with ⟨h1, _⟩ | ⟨g', cap, cur, rfl, hb, hgc, hnc, hcm, hcs, ht⟩
  · have h2 := (hn.1 h1).1
    cases h2
  · refine ⟨g', cap, rfl, hb, (Array.getElem?_eq_some_iff.1 hgc).1, ⟨⟨flat_len _, .inr ⟨g', cap, cur, rfl, Nat.zero_le _, hgc, hnc, hcm, hcs, ht⟩⟩, .inr rfl⟩, ?_⟩
    exact ((show Below w.heap.size w (w.drew.alloc (Obj.cells #[] 71)) from (below_drew1 (Below.refl w.heap.size w)).alloc (Nat.le_refl _) (Obj.cells #[] 71))).grown hg1 (by simp) (fun k hk => by
      have e : some w.heap.size = some k := hk
      injection e with e
      omega)
theorem cp_end {w w1 : World} {g' cap' : Nat} {s : St} (hk : Okf s.L) (hg : w.heap.size ≤ g') (hl : g' < w1.heap.size) (hF : RF w1 w1.heap.size g' (.slice (some ⟨g', 0, none⟩) s.L.length cap') s.L) (hb : Below w.heap.size w w1) :
    RK (w1.alloc (.cells (cellsR (.slice (some ⟨g', 0, none⟩) s.L.length cap') s) 33)) w1.heap.size g' s ∧ Below w.heap.size w (w1.alloc (.cells (cellsR (.slice (some ⟨g', 0, none⟩) s.L.length cap') s) 33)) :=
  ⟨⟨_, heap_alloc_new w1 _, hF.kept (Below.heap_alloc w1 _ _ hl), hk⟩, hb.alloc hb.size _⟩
theorem one_flat (L : FS) : ∀ u ∈ flat L, u.oneCell' = true := by
  induction L with
  | nil => intro u h; cases h
  | cons p r ih =>
    obtain ⟨a, x⟩ := p
    intro u h
    rw [flat] at h
    rcases List.mem_cons.1 h with rfl | h
    · rfl
    · rcases List.mem_cons.1 h with rfl | h
      · rfl
      · exact ih u h
theorem RF.news {w : World} {p g n cap : Nat} {L : FS} (h : RF w p g (.slice (some ⟨g, 0, none⟩) n cap) L) : ∀ j u, (flat L)[j]? = some u → w.cell? ((⟨g, 0, none⟩ : Addr).add j) = some u := h.1.cells (g := g) rfl
end Go.Proofs.YtcbgeakabchenaaGreatDoor.D

/- ScriptAll's law: all that is walked for it: All, the document's Lines and All, errors.Is of a fault with a fault under it, the law. -/
import Derived.Test.YtopcidphlleciaaGreatDoorScU
import Derived.Test.YtopcidphlleciaaGreatDoorProN
import Derived.Maps.AppendAt
import Derived.Test.YtopcidphlleciaaGreatDoorReI
import Derived.Test.YtopcidphlleciaaGreatDoorReR
import Derived.Test.YtopcidphlleciaaGreatDoorSErr
import Derived.Test.YtopcidphlleciaaGreatDoorSIs
import Derived.Test.YtopcidphlleciaaGreatDoorSLi
import Derived.Deep.RegionHeld3
namespace Go.Proofs.YtopcidphlleciaaGreatDoor.S
open Go.RowKit Go.Extern.Stop Go.Stop Go.Extern Go.Proofs.YtopcidphlleciaaGreatDoorW.PrintWords Go.Proofs.YtopcidphlleciaaGreatDoorW.PrintLast Go.Proofs.YtopcidphlleciaaGreatDoorW.PrintMore
set_option linter.unusedVariables false
set_option linter.unusedSimpArgs false
/-- What All tells, behind what was told before. -/
def preA (W : List (Cl × Nat)) (x : Sum (Nat × Bd) (List (Cl × Nat))) : Sum (Nat × Bd) (List (Cl × Nat)) := x.map id (W ++ ·)
theorem preA_nil (x : Sum (Nat × Bd) (List (Cl × Nat))) : preA [] x = x := by cases x <;> rfl
theorem preA_preA (a b : List (Cl × Nat)) (x : Sum (Nat × Bd) (List (Cl × Nat))) : preA a (preA b x) = preA (a ++ b) x := by cases x <;> simp [preA]
theorem allF_over {p : BL} (n : Nat) (r : List BL) (h : overF p = true) : allF n (p :: r) = allF (n + 1) r := by rw [allF, if_pos h]
theorem allF_ok {p : BL} (n : Nat) (r : List BL) (h : overF p = false) (h2 : (readF (mkB p)).2.1 = 0) : allF n (p :: r) = preA [((readF (mkB p)).1, n + 1)] (allF (n + 1) r) := by rw [allF, h, if_neg (by decide), if_pos h2]; rfl
theorem allF_bad {p : BL} (n : Nat) (r : List BL) (h : overF p = false) (h2 : (readF (mkB p)).2.1 ≠ 0) : allF n (p :: r) = .inl (n + 1, (readF (mkB p)).2) := by rw [allF, h, if_neg (by decide), if_neg h2]
theorem spl_last (c : UInt8) (l : BL) : ∃ Z x, spl c l = Z ++ [x] := by
  obtain ⟨x, y, h⟩ := spl_cons c l
  rcases List.eq_nil_or_concat (spl c l) with q | ⟨Z, z, q⟩
  · rw [q] at h; cases h
  · exact ⟨Z, z, by rw [q, List.concat_eq_append]⟩
theorem linesF_of {l x : BL} {Z : List BL} (h : spl 10 l = Z ++ [x]) : linesF l = if x = [] then Z else Z ++ [x] := by
  unfold linesF
  rw [h, List.getLast?_concat, List.dropLast_concat]
  by_cases q : x = []
  · rw [if_pos q, if_pos (by rw [q])]
  · rw [if_neg q, if_neg (fun e => q (by injection e))]
theorem mem_linesF {l p : BL} (h : p ∈ linesF l) : p ∈ spl 10 l := by
  obtain ⟨Z, x, hx⟩ := spl_last 10 l
  rw [linesF_of hx] at h
  rw [hx]
  split at h
  · exact List.mem_append_left _ h
  · exact h
theorem linesF_len (l : BL) : (linesF l).length ≤ l.length + 1 := by
  obtain ⟨Z, x, hx⟩ := spl_last 10 l
  have h1 := len_sum (spl 10 l)
  rw [spl_sum] at h1
  rw [linesF_of hx]
  rw [hx] at h1
  split
  · rw [List.length_append, List.length_singleton] at h1; omega
  · exact h1
theorem mem_size {l p : BL} (h : p ∈ linesF l) : p.length ≤ l.length := by
  have := le_sum (mem_linesF h)
  rw [spl_sum] at this
  omega
/-- Calls that were read, as they lie: each with its list's place. -/
abbrev LC := Cl × Option Addr × Nat
def encC (x : LC) : List Value := [.string x.1.1, .slice x.2.1 x.1.2.length x.2.2]
theorem encC_len (L : List LC) : (L.flatMap encC).length = L.length * 2 := by
  induction L with
  | nil => rfl
  | cons x r ih => rw [List.flatMap_cons, List.length_append, ih, List.length_cons]; show 2 + _ = _; omega
theorem encC_one (L : List LC) : ∀ u ∈ L.flatMap encC, u.oneCell' = true := by
  intro u hu
  obtain ⟨x, _, h⟩ := List.mem_flatMap.1 hu
  unfold encC at h
  simp only [List.mem_cons, List.not_mem_nil, or_false] at h
  rcases h with rfl | rfl <;> rfl
theorem encC_at {L : List LC} {i : Nat} {x : LC} (h : L[i]? = some x) : (L.flatMap encC)[i * 2]? = some (.string x.1.1) ∧ (L.flatMap encC)[i * 2 + 1]? = some (.slice x.2.1 x.1.2.length x.2.2) := by
  induction L generalizing i with
  | nil => cases h
  | cons y r ih =>
    rw [List.flatMap_cons]
    cases i with
    | zero =>
      injection h with h
      subst h
      exact ⟨rfl, rfl⟩
    | succ j =>
      obtain ⟨h1, h2⟩ := ih (i := j) h
      have hl : (encC y).length = 2 := rfl
      rw [List.getElem?_append_right (by rw [hl]; omega), List.getElem?_append_right (by rw [hl]; omega), hl]
      rw [show (j + 1) * 2 - 2 = j * 2 by omega, show (j + 1) * 2 + 1 - 2 = j * 2 + 1 by omega]
      exact ⟨h1, h2⟩
theorem lst_grown {w w' : World} {a : Option Addr} {n : Nat} {l : List ByteArray} {row : Option Nat} (h : LSt w a n l) (hg : w.grownBy w' row) (hne : 0 < n → ∀ g o, a = some ⟨g, o, none⟩ → row ≠ some g) : LSt w' a n l := by
  obtain ⟨h1, h2, h3, h4⟩ := h
  refine ⟨h1, h2, fun hn => ?_, h4⟩
  obtain ⟨g, o, e, hc⟩ := h3 hn
  exact ⟨g, o, e, fun i hi => hg.cell (hc i hi) (fun q => hne hn g o e q.symm)⟩
theorem lst_lt {w : World} {g o : Nat} {n : Nat} {l : List ByteArray} (h : LSt w (some ⟨g, o, none⟩) n l) (hn : 0 < n) : g < w.heap.size := by
  obtain ⟨h1, _, h3, _⟩ := h
  obtain ⟨g', o', e, hc⟩ := h3 hn
  injection e with e
  injection e with e1 e2 _
  subst e1
  exact World.block_lt_of_cell? _ _ (hc 0 (by omega))
theorem cell_two_new (w : World) (x y : Value) (t : TypeId) : ∀ j u, [x, y][j]? = some u → (w.alloc (.cells #[x, y] t)).cell? ((⟨w.heap.size, 0, none⟩ : Addr).add j) = some u := by
  intro j u h
  have hb := heap_alloc_new w (.cells #[x, y] t)
  match j, h with
  | 0, h => injection h with h; subst h; rw [show (⟨w.heap.size, 0, none⟩ : Addr).add 0 = ⟨w.heap.size, 0, none⟩ from rfl, cell_of_row _ _ _ _ _ _ hb]; rfl
  | 1, h => injection h with h; subst h; rw [show (⟨w.heap.size, 0, none⟩ : Addr).add 1 = ⟨w.heap.size, 1, none⟩ from rfl, cell_of_row _ _ _ _ _ _ hb]; rfl
def encN (n : Nat) : Value := .int .i64 (n : Int)
/-- A call that was read lies in no block of the two lists. -/
def Off (v u : Value) (x : LC) : Prop := 0 < x.1.2.length → ∀ g o, x.2.1 = some ⟨g, o, none⟩ → v.ownBlock ≠ some g ∧ u.ownBlock ≠ some g
/-- The list of calls v and the list of lines u, each in memory of its own. -/
def AI (B : Nat) (w : World) (v u : Value) (C : List LC) (L : List Nat) : Prop := w.ownsRow B 25 2 v C.length (C.flatMap encC) ∧ w.ownsRow B 3 1 u L.length (L.map encN) ∧ (u.ownBlock = none ∨ u.ownBlock ≠ v.ownBlock) ∧ ∀ x ∈ C, LSt w x.2.1 x.1.2.length x.1.2 ∧ Off v u x
theorem AI.nil (B : Nat) (w : World) : AI B w (.slice none 0 0) (.slice none 0 0) [] [] := ⟨World.ownsRow_nil _ _ _ _, World.ownsRow_nil _ _ _ _, .inl rfl, fun x h => by cases h⟩
theorem AI.below {B : Nat} {w w' : World} {v u : Value} {C : List LC} {L : List Nat} (h : AI B w v u C L) (hb : Below w.heap.size w w') : AI B w' v u C L :=
  ⟨own_below h.1 hb, own_below h.2.1 hb, h.2.2.1, fun x hx => ⟨(h.2.2.2 x hx).1.below hb, (h.2.2.2 x hx).2⟩⟩
theorem AI.call {B : Nat} {w w' : World} {v v' u : Value} {C : List LC} {L : List Nat} {x : LC} (h : AI B w v u C L) (hx : LSt w x.2.1 x.1.2.length x.1.2) (ho : Off v u x) (hr : w'.ownsRow B 25 2 v' (C.length + 1) (C.flatMap encC ++ encC x)) (hg : w.grownBy w' v.ownBlock) (hat : v'.ownBlock = v.ownBlock ∨ v'.ownBlock = some w.heap.size) : AI B w' v' u (C ++ [x]) L := by
  obtain ⟨h1, h2, h3, h4⟩ := h
  have hoff : ∀ y : LC, LSt w y.2.1 y.1.2.length y.1.2 → Off v u y → LSt w' y.2.1 y.1.2.length y.1.2 ∧ Off v' u y := fun y q1 q2 => by
    refine ⟨lst_grown q1 hg fun hn g o e => (q2 hn g o e).1, fun hn g o e => ⟨?_, (q2 hn g o e).2⟩⟩
    rcases hat with e1 | e1
    · rw [e1]; exact (q2 hn g o e).1
    · rw [e1]
      intro q
      injection q with q
      rw [e] at q1
      have := lst_lt q1 hn
      omega
  refine ⟨by simpa using hr, h2.kept hg h3, ?_, fun y hy => ?_⟩
  · rcases hat with e1 | e1
    · rw [e1]; exact h3
    · rw [e1]
      cases hu : u.ownBlock with
      | none => exact .inl rfl
      | some k =>
        have := (h2.lt k hu).2
        exact .inr (fun q => by injection q with q; omega)
  · rcases List.mem_append.1 hy with hy | hy
    · exact hoff y (h4 y hy).1 (h4 y hy).2
    · rw [List.mem_singleton] at hy
      subst hy
      exact hoff y hx ho
theorem AI.line {B : Nat} {w w' : World} {v u u' : Value} {C : List LC} {L : List Nat} {n : Nat} (h : AI B w v u C L) (hr : w'.ownsRow B 3 1 u' (L.length + 1) (L.map encN ++ [encN n])) (hg : w.grownBy w' u.ownBlock) (hat : u'.ownBlock = u.ownBlock ∨ u'.ownBlock = some w.heap.size) : AI B w' v u' C (L ++ [n]) := by
  obtain ⟨h1, h2, h3, h4⟩ := h
  refine ⟨h1.kept hg ?_, by simpa using hr, ?_, fun y hy => ?_⟩
  · cases hv : v.ownBlock with
    | none => exact .inl rfl
    | some k =>
      refine .inr (fun q => ?_)
      rcases h3 with e | e
      · rw [e] at q; cases q
      · exact e (by rw [← q, hv])
  · rcases hat with e1 | e1
    · rw [e1]; exact h3
    · rw [e1]
      refine .inr (fun q => ?_)
      have := (h1.lt _ q.symm).2
      omega
  · obtain ⟨q1, q2⟩ := h4 y hy
    refine ⟨lst_grown q1 hg fun hn g o e => (q2 hn g o e).2, fun hn g o e => ⟨(q2 hn g o e).1, ?_⟩⟩
    rcases hat with e1 | e1
    · rw [e1]; exact (q2 hn g o e).2
    · rw [e1]
      intro q
      injection q with q
      rw [e] at q1
      have := lst_lt q1 hn
      omega
theorem infoC : (Tryz.prog.info? 25).map (fun i => (i.zero, i.size, i.bytes)) = some (some (.agg #[.string ByteArray.empty, .slice none 0 0]), 2, 40) := by kernel_rfl
theorem infoN : (Tryz.prog.info? 3).map (fun i => (i.zero, i.size, i.bytes)) = some (some (.int .i64 0), 1, 8) := by kernel_rfl
/-- A fault with an error under it. -/
def FU (w : World) (g : Nat) (n : Int) (ev : Value) : Prop := w.cell? ⟨g, 0, none⟩ = some (.int .i64 303) ∧ w.cell? ⟨g, 1, none⟩ = some (.string ⟨#[]⟩) ∧ w.cell? ⟨g, 2, none⟩ = some (.int .i64 n) ∧ w.cell? ⟨g, 3, none⟩ = some ev
theorem FU.below {w w' : World} {g : Nat} {n : Int} {ev : Value} (h : FU w g n ev) (hb : Below w.heap.size w w') : FU w' g n ev := ⟨pw_cell_below hb h.1, pw_cell_below hb h.2.1, pw_cell_below hb h.2.2.1, pw_cell_below hb h.2.2.2⟩
/-- What All answers. -/
def AllR (B : Nat) (w' : World) (e : Ending) : Sum (Nat × Bd) (List (Cl × Nat)) → Prop
  | .inl (n, b) => ∃ g ev, e = .returned (.tuple #[.slice none 0 0, .slice none 0 0, .iface 43 (.pointer (some ⟨g, 0, none⟩))]) ∧ g < w'.heap.size ∧ FU w' g n ev ∧ EA w' ev b ∧ b.1 ≠ 0
  | .inr L => ∃ vl vn C, e = .returned (.tuple #[vl, vn, .nilIface]) ∧ AI B w' vl vn C (L.map (·.2)) ∧ C.map (·.1) = L.map (·.1)
theorem rc_open {B : Nat} {w : World} {c : Cl} {v : Value} (h : RC B w c v) (hn : c.2.length ≤ 1000000) (hs : ∀ k ∈ c.2, k.size ≤ 4000000) : ∃ x : LC, x.1 = c ∧ v = .agg #[.string x.1.1, .slice x.2.1 x.1.2.length x.2.2] ∧ LSt w x.2.1 x.1.2.length x.1.2 ∧ ∀ g o, x.2.1 = some ⟨g, o, none⟩ → B ≤ g := by
  obtain ⟨sv, rfl, ho⟩ := h
  obtain ⟨a, k, rfl⟩ := own_form ho
  refine ⟨(c, a, k), rfl, rfl, own_lst ho (by show c.2.length ≤ _; omega) (fun y hy => by have := hs y hy; omega), fun g o e => ?_⟩
  rcases ho.2 with ⟨e1, e2⟩ | ⟨g', cap, cur, e1, e2, _⟩
  · injection e1 with e1
    have e : a = some ⟨g, o, none⟩ := e
    rw [e] at e1
    cases e1
  · injection e1 with e1
    have e : a = some ⟨g, o, none⟩ := e
    rw [e] at e1
    injection e1 with e1
    injection e1 with e1
    omega
theorem readF_small {s : ByteArray} (hs : s.size ≤ 20000) : (readF s).1.2.length ≤ 1000000 ∧ ∀ k ∈ (readF s).1.2, k.size ≤ 4000000 := by
  have hz : noC.2.length ≤ 1000000 ∧ ∀ k ∈ noC.2, k.size ≤ 4000000 := ⟨by decide, fun k h => by cases h⟩
  unfold readF
  split
  · exact hz
  · split
    · exact hz
    · split
      · exact hz
      · exact hz
      · rename_i a r hp
        split
        · have h1 := prs_small hp
          have h2 := prs_len _ _ hp
          have h3 := len_sum (spl 32 (tl s))
          rw [spl_sum] at h3
          have h4 : (tl s).length = s.size := Array.length_toList
          rw [List.length_cons] at h2
          refine ⟨by rw [List.length_map]; omega, fun k hk => ?_⟩
          obtain ⟨y, hy, rfl⟩ := List.mem_map.1 hk
          rw [mkB_size]
          have := h1 y (by simp [hy])
          omega
        · exact hz
theorem off_new {w w5 : World} {B : Nat} {v u : Value} {C : List LC} {L : List Nat} {x : LC} (h : AI B w v u C L) (hx : ∀ g o, x.2.1 = some ⟨g, o, none⟩ → w.heap.size ≤ g) : Off v u x := fun hn g o e => by
  have hg := hx g o e
  exact ⟨fun q => by have := (h.1.lt _ q).2; omega, fun q => by have := (h.2.1.lt _ q).2; omega⟩
set_option maxHeartbeats 32000000 in
set_option maxRecDepth 100000 in
theorem all_calls (s : ByteArray) (w : World) (hs : s.size ≤ 20000) (hG : GS w) (hT : GT w) (hM : GM w) : Calls Tryz.prog 14 #[.string s] w fun e w' => Below w.heap.size w w' ∧ AllR (w.heap.size + 1) w' e (allF 0 (linesF (tl s))) := by
  obtain ⟨i0, hi0, hz0, hz1, hz2⟩ := info_parts infoC
  obtain ⟨i1, hi1, hy0, hy1, hy2⟩ := info_parts infoN
  have HL : Aside0 ((tl s).length = s.size) := ⟨Array.length_toList⟩
  obtain ⟨P, hP⟩ : ∃ P, spl 10 (tl s) = P := ⟨_, rfl⟩
  obtain ⟨M, hM1⟩ : ∃ M, P.length = M := ⟨_, rfl⟩
  obtain ⟨Z, x, hZ⟩ := spl_last 10 (tl s)
  have hF := linesF_of hZ
  have hlen := linesF_len (tl s)
  have hmem : ∀ p ∈ linesF (tl s), p.length ≤ s.size := fun p hp => by have := mem_size hp; rw [HL.out] at this; exact this
  obtain ⟨PP, hPP⟩ : ∃ PP, linesF (tl s) = PP := ⟨_, rfl⟩
  rw [hPP] at hF hlen hmem ⊢
  rw [HL.out] at hlen
  obtain ⟨N, hN⟩ : ∃ N, PP.length = N := ⟨_, rfl⟩
  obtain ⟨w1, hw1⟩ : ∃ w1, w.alloc (.cells (P.map encS).toArray 9) = w1 := ⟨_, rfl⟩
  have HB1 : Aside0 (Below w.heap.size w w1 ∧ w1.heap.size = w.heap.size + 1) := ⟨by rw [← hw1]; exact ⟨(Below.refl _ _).alloc (Nat.le_refl _) _, by simp⟩⟩
  have hcell : ∀ j (h : j < P.length), w1.cell? ⟨w.heap.size, j, none⟩ = some (encS P[j]) := fun j h => by rw [← hw1]; exact cell_pieces w P _ j h
  have HSP : Aside0 (Calls Tryz.prog 30 #[.string s, .string ⟨#[10]⟩] w fun e w' => e = .returned (.slice (some ⟨w.heap.size, 0, none⟩) M M) ∧ w1 = w') := ⟨by have := split_calls 10 s w (by omega) hM; rw [hP, hM1, hw1] at this; exact this.mono (fun _ _ h => ⟨h.1, h.2.symm⟩)⟩
  have hPZ : P = Z ++ [x] := hP.symm.trans hZ
  have hM2 : M = Z.length + 1 := by rw [← hM1, hPZ]; simp
  have hlast : w1.cell? ⟨w.heap.size, M - 1, none⟩ = some (.string (mkB x)) := by
    have := hcell (M - 1) (by omega)
    rw [this]
    simp [hPZ, hM2, encS]
  have HPC : Aside0 (∀ j p, PP[j]? = some p → w1.cell? ⟨w.heap.size, j, none⟩ = some (.string (mkB p))) := ⟨fun j p h => by
    have e : P[j]? = some p := by
      rw [← h, hPZ, hF]
      split
      · rename_i hx
        rw [hF, if_pos hx] at h
        rw [List.getElem?_append_left (List.getElem?_eq_some_iff.1 h).1]
      · rfl
    obtain ⟨hj, e⟩ := List.getElem?_eq_some_iff.1 e
    rw [hcell j hj, e]
    rfl⟩
  have hNM : (x = [] → N = M - 1) ∧ (x ≠ [] → N = M) := by
    refine ⟨fun q => ?_, fun q => ?_⟩
    · rw [← hN, hF, if_pos q, hM2]; rfl
    · rw [← hN, hF, if_neg q, hM2]; simp
  have HMEM := Aside0.mk hmem
  have HN := Aside0.mk hN
  have HG := Aside0.mk (And.intro hG (And.intro hT hM))
  have hMs : 0 < M := by omega
  have hNs : N ≤ s.size + 1 := by omega
  have hM0 : (0 : Int) ≤ (M : Int) - 1 := by omega
  have hM3 : (M : Int) - 1 < (M : Int) := by omega
  have hM4 : ((M : Int) - 1).toNat = M - 1 := by omega
  have hsl : ∀ W, (Instr.slice 23 (.slice (some ⟨w.heap.size, 0, none⟩) M M) none (some (.int .i64 ((M : Int) - 1))) none).run Tryz.prog W = .ok (.slice (some ⟨w.heap.size, 0, none⟩) (M - 1) M) W := fun W => by
    have hz : ∀ W, (sizeOf 9).run Tryz.prog W = .ok 1 W := fun W => by kernel_rfl
    simp [Instr.slice, Instr.sliceBounds, Instr.sliceBound, asIntOf, run_underlying Tryz.underlying23, hz, hM0, hM4, Result.andThen]
    rw [if_pos ⟨by omega, by omega⟩, if_neg (by omega)]
    rfl
  clear hP hM1 hZ hF hPP hw1 hcell hPZ hM2 hN hmem hlen hG hT hM
  by_cases hx : x = []
  case neg =>
    obtain rfl := hNM.2 hx
    have hne : List.isEmpty x = false := by cases x with | nil => exact absurd rfl hx | cons b r => rfl
    clear hNM hsl hx
    go_enter Tryz.func14, Tryz.ntmps14
    go_wp2_with (fail)
    refine HSP.out.mono ?_
    rintro e w5 ⟨rfl, rfl⟩
    go_wp2_with (fail)
    go_loopw [2, 3, 6, 7, 8, 9, 26] (fun v2 v3 v6 v7 v8 v9 v26 wr => ∃ (j : Nat) (C : List LC) (L : List (Cl × Nat)) (LN : List Nat), j ≤ N ∧ v26 = .int .i64 j ∧ AI (w.heap.size + 1) wr v2 v3 C LN ∧ Aside0 (Below w1.heap.size w1 wr ∧ allF 0 PP = preA L (allF j (PP.drop j)) ∧ C.map (·.1) = L.map (·.1) ∧ C.length ≤ j ∧ L.map (·.2) = LN)) (fun _ _ _ _ _ _ v26 _ => N - (intOf v26).toNat)
    case atStart => exact ⟨0, [], [], [], Nat.zero_le _, rfl, AI.nil _ _, ⟨Below.refl _ _, by rw [preA_nil, List.drop_zero], rfl, Nat.le_refl _, rfl⟩⟩
    case round =>
      obtain ⟨j, C, L, LN, hj, rfl, hAI, HX⟩ := hrel
      have HAI := Aside0.mk hAI
      have HB : Aside0 (Below w.heap.size w wr) := ⟨below_step (w := w) HB1.out.1 HX.out.1⟩
      have hzw : w.heap.size < wr.heap.size := by have h1 := HX.out.1.size; have h2 := HB1.out.2; omega
      have HCL : Aside0 (C.length ≤ 30000 ∧ LN.length = C.length) := ⟨by have := HX.out.2.2.2.1; omega, by have := congrArg List.length HX.out.2.2.1; rw [List.length_map, List.length_map] at this; rw [← HX.out.2.2.2.2, List.length_map, this]⟩
      clear hAI
      by_cases h1 : j < N
      · have h1' : (j : Int) < (N : Int) := by omega
        have h0' : (0 : Int) ≤ (j : Int) := by omega
        have hjl : j < PP.length := by rw [HN.out]; exact h1
        obtain ⟨p, hp⟩ : ∃ p, PP[j]? = some p := ⟨_, List.getElem?_eq_getElem hjl⟩
        have a1 : wr.cell? ⟨w.heap.size, j, none⟩ = some (.string (mkB p)) := pw_cell_below HX.out.1 (HPC.out j p hp)
        have HD : Aside0 (PP.drop j = p :: PP.drop (j + 1)) := ⟨by obtain ⟨h, e⟩ := List.getElem?_eq_some_iff.1 hp; rw [List.drop_eq_getElem_cons h, e]⟩
        have HPS : Aside0 ((mkB p).size ≤ s.size) := ⟨by rw [mkB_size]; exact HMEM.out p (List.mem_of_getElem? hp)⟩
        clear hjl hp
        have HO : Aside0 (∀ W, Calls Tryz.prog 29 #[.string (mkB p)] W fun e w' => e = .returned (.bool (overF p)) ∧ W = w') := ⟨fun W => by have := over_calls (mkB p) W; rw [tl_mkB] at this; exact this⟩
        cases ho : overF p
        case true =>
          rw [ho] at HO
          have HS : Aside0 (allF 0 PP = preA L (allF (j + 1) (PP.drop (j + 1)))) := ⟨by rw [HX.out.2.1, HD.out, allF_over _ _ ho]⟩
          clear ho
          go_wp2_with (fail)
          refine (HO.out _).mono ?_
          rintro e w5 ⟨rfl, rfl⟩
          go_wp2_with (fail)
          all_goals exact ⟨⟨j + 1, C, L, LN, by omega, by simp, HAI.out, ⟨HX.out.1, HS.out, HX.out.2.2.1, by have := HX.out.2.2.2.1; omega, HX.out.2.2.2.2⟩⟩, by simp [intOf]; omega⟩
        case false =>
          rw [ho] at HO
          have HRS : Aside0 _ := ⟨readF_small (s := mkB p) (by have := HPS.out; omega)⟩
          have HSB : Aside0 ((readF (mkB p)).2.1 ≠ 0 → allF 0 PP = .inl (j + 1, (readF (mkB p)).2)) := ⟨fun q => by rw [HX.out.2.1, HD.out, allF_bad _ _ ho q]; rfl⟩
          have HSO : Aside0 ((readF (mkB p)).2.1 = 0 → allF 0 PP = preA (L ++ [((readF (mkB p)).1, j + 1)]) (allF (j + 1) (PP.drop (j + 1)))) := ⟨fun q => by rw [HX.out.2.1, HD.out, allF_ok _ _ ho q, preA_preA]⟩
          clear ho
          go_wp2_with (fail)
          refine (HO.out _).mono ?_
          rintro e w5 ⟨rfl, rfl⟩
          go_wp2_with (fail)
          refine (read_calls (mkB p) _ (HG.out.1.below HB.out) (tab_below HG.out.2.1 HB.out) (HG.out.2.2.below HB.out)).mono ?_
          rintro e w6 ⟨cv, ev, rfl, hR, hE, hb6⟩
          obtain ⟨x, hx1, rfl, hx2, hx3⟩ := rc_open hR HRS.out.1 HRS.out.2
          have HR : Aside0 (x.1 = (readF (mkB p)).1 ∧ LSt w6 x.2.1 x.1.2.length x.1.2 ∧ ∀ v u : Value, AI (w.heap.size + 1) wr v u C LN → Off v u x) := ⟨hx1, hx2, fun v u h => off_new (w5 := wr) h hx3⟩
          have HB6 := Aside0.mk hb6
          have hz6 := hb6.size
          clear hR hb6 hx1 hx2 hx3 a1
          rcases hE with ⟨e1, e2, rfl⟩ | ⟨e1, g, rfl, e3, e4⟩
          case inl =>
            have HB67 : Aside0 (Below w6.heap.size w6 ((w6.alloc (.cells #[.string x.1.1, .slice x.2.1 x.1.2.length x.2.2] 25)).alloc (.cells #[.string x.1.1, .slice x.2.1 x.1.2.length x.2.2] 25))) := ⟨((Below.refl _ _).alloc (Nat.le_refl _) _).alloc (by simp) _⟩
            have HN7 : Aside0 (∀ jj u, (encC x)[jj]? = some u → ((w6.alloc (.cells #[.string x.1.1, .slice x.2.1 x.1.2.length x.2.2] 25)).alloc (.cells #[.string x.1.1, .slice x.2.1 x.1.2.length x.2.2] 25)).cell? ((⟨w6.heap.size + 1, 0, none⟩ : Addr).add jj) = some u) := ⟨fun jj u hh => by
              have q := cell_two_new (w6.alloc (.cells #[.string x.1.1, .slice x.2.1 x.1.2.length x.2.2] 25)) (.string x.1.1) (.slice x.2.1 x.1.2.length x.2.2) 25 jj u hh
              rw [show (w6.alloc (.cells #[.string x.1.1, .slice x.2.1 x.1.2.length x.2.2] 25)).heap.size = w6.heap.size + 1 by simp] at q
              exact q⟩
            have HA7 : Aside0 (AI (w.heap.size + 1) ((w6.alloc (.cells #[.string x.1.1, .slice x.2.1 x.1.2.length x.2.2] 25)).alloc (.cells #[.string x.1.1, .slice x.2.1 x.1.2.length x.2.2] 25)) u2 u3 C LN) := ⟨(HAI.out.below HB6.out).below HB67.out⟩
            have HX7 : Aside0 (LSt ((w6.alloc (.cells #[.string x.1.1, .slice x.2.1 x.1.2.length x.2.2] 25)).alloc (.cells #[.string x.1.1, .slice x.2.1 x.1.2.length x.2.2] 25)) x.2.1 x.1.2.length x.1.2 ∧ Off u2 u3 x) := ⟨HR.out.2.1.below HB67.out, HR.out.2.2 _ _ HAI.out⟩
            have HB7 : Aside0 (Below w1.heap.size w1 ((w6.alloc (.cells #[.string x.1.1, .slice x.2.1 x.1.2.length x.2.2] 25)).alloc (.cells #[.string x.1.1, .slice x.2.1 x.1.2.length x.2.2] 25))) := ⟨below_step (below_step HX.out.1 HB6.out) HB67.out⟩
            have HW1 := Aside0.mk HB1.out.2
            have HLL := Aside0.mk HCL.out.2
            go_wp2_with (first
              | (at_builtin; refine wpList_append_own_at _ rfl _ _ 37 rfl (w.heap.size + 1) 25 i0 (.agg #[.string ByteArray.empty, .slice none 0 0]) 2 40 Tryz.underlying37 hi0 hz0 hz1 hz2 rfl (by decide) _ C.length (C.flatMap encC) rfl HA7.out.1 ⟨w6.heap.size + 1, 0, none⟩ 1 1 (encC x) rfl rfl HN7.out (by simp [Value.oneCell', encC]) (by have := HCL.out.1; unfold maxLen; omega) (by have := HCL.out.1; omega) (by simp; omega) ?_; intro v' w3 hown' hg3 hnil3 hat3; have HA3 := Aside0.mk (HA7.out.call HX7.out.1 HX7.out.2 hown' hg3 hat3); have HB3 := Aside0.mk (HB7.out.grown hg3 HB7.out.size (fun j hj => by have h1 := (HA7.out.1.lt j hj).1; have h2 := HW1.out; omega)); have HA3b := Aside0.mk (HA3.out.below (w' := w3.alloc (.cells #[.int .i64 ((j : Int) + 1)] 3)) ((Below.refl _ _).alloc (Nat.le_refl _) _)); have hz3 := hg3.size; clear hown' hg3 hnil3 hat3)
              | (at_builtin; refine wpList_append_own_at _ rfl _ _ 38 rfl (w.heap.size + 1) 3 i1 (.int .i64 0) 1 8 Tryz.underlying38 hi1 hy0 hy1 hy2 rfl (by decide) _ LN.length (LN.map encN) rfl HA3b.out.2.1 ⟨w3.heap.size, 0, none⟩ 1 1 [.int .i64 ((j : Int) + 1)] rfl rfl (cell_one_new _ _ _) (by simp [Value.oneCell']) (by have h1 := HCL.out.1; have h2 := HLL.out; unfold maxLen; omega) (by have h1 := HCL.out.1; have h2 := HLL.out; omega) (by have h2 := HB3.out.size; have h3 := HW1.out; simp; omega) ?_; intro v'' w4 hown'' hg4 hnil4 hat4)
              | go_in)
            have HA4 := HA3b.out.line (n := j + 1) hown'' hg4 hat4
            have HB4 : Below w1.heap.size w1 w4 := (HB3.out.alloc HB3.out.size _).grown hg4 (by have h2 := HB3.out.size; simp; omega) (fun j hj => by have h1 := (HA3b.out.2.1.lt j hj).1; have h2 := HW1.out; omega)
            exact ⟨⟨j + 1, C ++ [x], L ++ [((readF (mkB p)).1, j + 1)], LN ++ [j + 1], by omega, rfl, HA4, ⟨HB4, HSO.out e1, by rw [List.map_append, List.map_append, HX.out.2.2.1, ← HR.out.1]; rfl, by have := HX.out.2.2.2.1; rw [List.length_append, List.length_singleton]; omega, by rw [List.map_append, HX.out.2.2.2.2]; rfl⟩⟩, by simp [intOf]; omega⟩
          case inr =>
            have HFA := Aside0.mk e4
            have n1 : ∀ (v : Value) (w : World), (binOp .neq 27 (.iface 43 v) .nilIface).run Tryz.prog w = .ok (.bool true) w := fun v w => by kernel_rfl
            go_wp2_with (fail)
            refine bodyPost_ret (results_list (rs := [_, _, _]) Tryz.results14 (by simp) (.tmp (.tmp (.tmp .nil)))) rfl ⟨?_, ?_⟩
            · exact ((below_step (w := w) HB.out HB6.out).alloc (by omega) _).alloc (by simp; omega) _
            · rw [HSB.out (by omega)]
              refine ⟨_, .iface 43 (.pointer (some ⟨g, 0, none⟩)), rfl, ?_, ?_, ?_, ?_⟩
              · simp
              · exact ⟨by simp, by simp, by simp, by simp⟩
              · exact EA.below (.inr ⟨e1, g, rfl, e3, HFA.out⟩) (((Below.refl _ _).alloc (Nat.le_refl _) _).alloc (by simp) _)
              · omega
      · have h1' : ¬ (j : Int) < (N : Int) := by omega
        obtain rfl : N = j := by omega
        have HE : Aside0 (allF 0 PP = .inr L) := ⟨by rw [HX.out.2.1, List.drop_of_length_le (by rw [HN.out]; exact Nat.le_refl _), allF]; show Sum.inr (L ++ []) = _; rw [List.append_nil]⟩
        go_wp2_with (fail)
        exact bodyPost_ret (results_list (rs := [_, _, _]) Tryz.results14 (by simp) (.tmp (.tmp (.tmp .nil)))) rfl ⟨HB.out, by rw [HE.out]; exact ⟨_, _, C, rfl, by rw [HX.out.2.2.2.2]; exact HAI.out, HX.out.2.2.1⟩⟩
  case pos =>
    have e := hNM.1 hx
    subst hx
    have hlast : w1.cell? ⟨w.heap.size, M - 1, none⟩ = some (.string ⟨#[]⟩) := hlast
    rw [← e] at hsl hlast hM4
    clear hNM e
    go_enter Tryz.func14, Tryz.ntmps14
    go_wp2_with (fail)
    refine HSP.out.mono ?_
    rintro e w5 ⟨rfl, rfl⟩
    go_wp2_with (fail)
    go_loopw [2, 3, 6, 7, 8, 9, 26] (fun v2 v3 v6 v7 v8 v9 v26 wr => ∃ (j : Nat) (C : List LC) (L : List (Cl × Nat)) (LN : List Nat), j ≤ N ∧ v26 = .int .i64 j ∧ AI (w.heap.size + 1) wr v2 v3 C LN ∧ Aside0 (Below w1.heap.size w1 wr ∧ allF 0 PP = preA L (allF j (PP.drop j)) ∧ C.map (·.1) = L.map (·.1) ∧ C.length ≤ j ∧ L.map (·.2) = LN)) (fun _ _ _ _ _ _ v26 _ => N - (intOf v26).toNat)
    case atStart => exact ⟨0, [], [], [], Nat.zero_le _, rfl, AI.nil _ _, ⟨Below.refl _ _, by rw [preA_nil, List.drop_zero], rfl, Nat.le_refl _, rfl⟩⟩
    case round =>
      obtain ⟨j, C, L, LN, hj, rfl, hAI, HX⟩ := hrel
      have HAI := Aside0.mk hAI
      have HB : Aside0 (Below w.heap.size w wr) := ⟨below_step (w := w) HB1.out.1 HX.out.1⟩
      have hzw : w.heap.size < wr.heap.size := by have h1 := HX.out.1.size; have h2 := HB1.out.2; omega
      have HCL : Aside0 (C.length ≤ 30000 ∧ LN.length = C.length) := ⟨by have := HX.out.2.2.2.1; omega, by have := congrArg List.length HX.out.2.2.1; rw [List.length_map, List.length_map] at this; rw [← HX.out.2.2.2.2, List.length_map, this]⟩
      clear hAI
      by_cases h1 : j < N
      · have h1' : (j : Int) < (N : Int) := by omega
        have h0' : (0 : Int) ≤ (j : Int) := by omega
        have hjl : j < PP.length := by rw [HN.out]; exact h1
        obtain ⟨p, hp⟩ : ∃ p, PP[j]? = some p := ⟨_, List.getElem?_eq_getElem hjl⟩
        have a1 : wr.cell? ⟨w.heap.size, j, none⟩ = some (.string (mkB p)) := pw_cell_below HX.out.1 (HPC.out j p hp)
        have HD : Aside0 (PP.drop j = p :: PP.drop (j + 1)) := ⟨by obtain ⟨h, e⟩ := List.getElem?_eq_some_iff.1 hp; rw [List.drop_eq_getElem_cons h, e]⟩
        have HPS : Aside0 ((mkB p).size ≤ s.size) := ⟨by rw [mkB_size]; exact HMEM.out p (List.mem_of_getElem? hp)⟩
        clear hjl hp
        have HO : Aside0 (∀ W, Calls Tryz.prog 29 #[.string (mkB p)] W fun e w' => e = .returned (.bool (overF p)) ∧ W = w') := ⟨fun W => by have := over_calls (mkB p) W; rw [tl_mkB] at this; exact this⟩
        cases ho : overF p
        case true =>
          rw [ho] at HO
          have HS : Aside0 (allF 0 PP = preA L (allF (j + 1) (PP.drop (j + 1)))) := ⟨by rw [HX.out.2.1, HD.out, allF_over _ _ ho]⟩
          clear ho
          go_wp2_with (fail)
          refine (HO.out _).mono ?_
          rintro e w5 ⟨rfl, rfl⟩
          go_wp2_with (fail)
          all_goals exact ⟨⟨j + 1, C, L, LN, by omega, by simp, HAI.out, ⟨HX.out.1, HS.out, HX.out.2.2.1, by have := HX.out.2.2.2.1; omega, HX.out.2.2.2.2⟩⟩, by simp [intOf]; omega⟩
        case false =>
          rw [ho] at HO
          have HRS : Aside0 _ := ⟨readF_small (s := mkB p) (by have := HPS.out; omega)⟩
          have HSB : Aside0 ((readF (mkB p)).2.1 ≠ 0 → allF 0 PP = .inl (j + 1, (readF (mkB p)).2)) := ⟨fun q => by rw [HX.out.2.1, HD.out, allF_bad _ _ ho q]; rfl⟩
          have HSO : Aside0 ((readF (mkB p)).2.1 = 0 → allF 0 PP = preA (L ++ [((readF (mkB p)).1, j + 1)]) (allF (j + 1) (PP.drop (j + 1)))) := ⟨fun q => by rw [HX.out.2.1, HD.out, allF_ok _ _ ho q, preA_preA]⟩
          clear ho
          go_wp2_with (fail)
          refine (HO.out _).mono ?_
          rintro e w5 ⟨rfl, rfl⟩
          go_wp2_with (fail)
          refine (read_calls (mkB p) _ (HG.out.1.below HB.out) (tab_below HG.out.2.1 HB.out) (HG.out.2.2.below HB.out)).mono ?_
          rintro e w6 ⟨cv, ev, rfl, hR, hE, hb6⟩
          obtain ⟨x, hx1, rfl, hx2, hx3⟩ := rc_open hR HRS.out.1 HRS.out.2
          have HR : Aside0 (x.1 = (readF (mkB p)).1 ∧ LSt w6 x.2.1 x.1.2.length x.1.2 ∧ ∀ v u : Value, AI (w.heap.size + 1) wr v u C LN → Off v u x) := ⟨hx1, hx2, fun v u h => off_new (w5 := wr) h hx3⟩
          have HB6 := Aside0.mk hb6
          have hz6 := hb6.size
          clear hR hb6 hx1 hx2 hx3 a1
          rcases hE with ⟨e1, e2, rfl⟩ | ⟨e1, g, rfl, e3, e4⟩
          case inl =>
            have HB67 : Aside0 (Below w6.heap.size w6 ((w6.alloc (.cells #[.string x.1.1, .slice x.2.1 x.1.2.length x.2.2] 25)).alloc (.cells #[.string x.1.1, .slice x.2.1 x.1.2.length x.2.2] 25))) := ⟨((Below.refl _ _).alloc (Nat.le_refl _) _).alloc (by simp) _⟩
            have HN7 : Aside0 (∀ jj u, (encC x)[jj]? = some u → ((w6.alloc (.cells #[.string x.1.1, .slice x.2.1 x.1.2.length x.2.2] 25)).alloc (.cells #[.string x.1.1, .slice x.2.1 x.1.2.length x.2.2] 25)).cell? ((⟨w6.heap.size + 1, 0, none⟩ : Addr).add jj) = some u) := ⟨fun jj u hh => by
              have q := cell_two_new (w6.alloc (.cells #[.string x.1.1, .slice x.2.1 x.1.2.length x.2.2] 25)) (.string x.1.1) (.slice x.2.1 x.1.2.length x.2.2) 25 jj u hh
              rw [show (w6.alloc (.cells #[.string x.1.1, .slice x.2.1 x.1.2.length x.2.2] 25)).heap.size = w6.heap.size + 1 by simp] at q
              exact q⟩
            have HA7 : Aside0 (AI (w.heap.size + 1) ((w6.alloc (.cells #[.string x.1.1, .slice x.2.1 x.1.2.length x.2.2] 25)).alloc (.cells #[.string x.1.1, .slice x.2.1 x.1.2.length x.2.2] 25)) u2 u3 C LN) := ⟨(HAI.out.below HB6.out).below HB67.out⟩
            have HX7 : Aside0 (LSt ((w6.alloc (.cells #[.string x.1.1, .slice x.2.1 x.1.2.length x.2.2] 25)).alloc (.cells #[.string x.1.1, .slice x.2.1 x.1.2.length x.2.2] 25)) x.2.1 x.1.2.length x.1.2 ∧ Off u2 u3 x) := ⟨HR.out.2.1.below HB67.out, HR.out.2.2 _ _ HAI.out⟩
            have HB7 : Aside0 (Below w1.heap.size w1 ((w6.alloc (.cells #[.string x.1.1, .slice x.2.1 x.1.2.length x.2.2] 25)).alloc (.cells #[.string x.1.1, .slice x.2.1 x.1.2.length x.2.2] 25))) := ⟨below_step (below_step HX.out.1 HB6.out) HB67.out⟩
            have HW1 := Aside0.mk HB1.out.2
            have HLL := Aside0.mk HCL.out.2
            go_wp2_with (first
              | (at_builtin; refine wpList_append_own_at _ rfl _ _ 37 rfl (w.heap.size + 1) 25 i0 (.agg #[.string ByteArray.empty, .slice none 0 0]) 2 40 Tryz.underlying37 hi0 hz0 hz1 hz2 rfl (by decide) _ C.length (C.flatMap encC) rfl HA7.out.1 ⟨w6.heap.size + 1, 0, none⟩ 1 1 (encC x) rfl rfl HN7.out (by simp [Value.oneCell', encC]) (by have := HCL.out.1; unfold maxLen; omega) (by have := HCL.out.1; omega) (by simp; omega) ?_; intro v' w3 hown' hg3 hnil3 hat3; have HA3 := Aside0.mk (HA7.out.call HX7.out.1 HX7.out.2 hown' hg3 hat3); have HB3 := Aside0.mk (HB7.out.grown hg3 HB7.out.size (fun j hj => by have h1 := (HA7.out.1.lt j hj).1; have h2 := HW1.out; omega)); have HA3b := Aside0.mk (HA3.out.below (w' := w3.alloc (.cells #[.int .i64 ((j : Int) + 1)] 3)) ((Below.refl _ _).alloc (Nat.le_refl _) _)); have hz3 := hg3.size; clear hown' hg3 hnil3 hat3)
              | (at_builtin; refine wpList_append_own_at _ rfl _ _ 38 rfl (w.heap.size + 1) 3 i1 (.int .i64 0) 1 8 Tryz.underlying38 hi1 hy0 hy1 hy2 rfl (by decide) _ LN.length (LN.map encN) rfl HA3b.out.2.1 ⟨w3.heap.size, 0, none⟩ 1 1 [.int .i64 ((j : Int) + 1)] rfl rfl (cell_one_new _ _ _) (by simp [Value.oneCell']) (by have h1 := HCL.out.1; have h2 := HLL.out; unfold maxLen; omega) (by have h1 := HCL.out.1; have h2 := HLL.out; omega) (by have h2 := HB3.out.size; have h3 := HW1.out; simp; omega) ?_; intro v'' w4 hown'' hg4 hnil4 hat4)
              | go_in)
            have HA4 := HA3b.out.line (n := j + 1) hown'' hg4 hat4
            have HB4 : Below w1.heap.size w1 w4 := (HB3.out.alloc HB3.out.size _).grown hg4 (by have h2 := HB3.out.size; simp; omega) (fun j hj => by have h1 := (HA3b.out.2.1.lt j hj).1; have h2 := HW1.out; omega)
            exact ⟨⟨j + 1, C ++ [x], L ++ [((readF (mkB p)).1, j + 1)], LN ++ [j + 1], by omega, rfl, HA4, ⟨HB4, HSO.out e1, by rw [List.map_append, List.map_append, HX.out.2.2.1, ← HR.out.1]; rfl, by have := HX.out.2.2.2.1; rw [List.length_append, List.length_singleton]; omega, by rw [List.map_append, HX.out.2.2.2.2]; rfl⟩⟩, by simp [intOf]; omega⟩
          case inr =>
            have HFA := Aside0.mk e4
            have n1 : ∀ (v : Value) (w : World), (binOp .neq 27 (.iface 43 v) .nilIface).run Tryz.prog w = .ok (.bool true) w := fun v w => by kernel_rfl
            go_wp2_with (fail)
            refine bodyPost_ret (results_list (rs := [_, _, _]) Tryz.results14 (by simp) (.tmp (.tmp (.tmp .nil)))) rfl ⟨?_, ?_⟩
            · exact ((below_step (w := w) HB.out HB6.out).alloc (by omega) _).alloc (by simp; omega) _
            · rw [HSB.out (by omega)]
              refine ⟨_, .iface 43 (.pointer (some ⟨g, 0, none⟩)), rfl, ?_, ?_, ?_, ?_⟩
              · simp
              · exact ⟨by simp, by simp, by simp, by simp⟩
              · exact EA.below (.inr ⟨e1, g, rfl, e3, HFA.out⟩) (((Below.refl _ _).alloc (Nat.le_refl _) _).alloc (by simp) _)
              · omega
      · have h1' : ¬ (j : Int) < (N : Int) := by omega
        obtain rfl : N = j := by omega
        have HE : Aside0 (allF 0 PP = .inr L) := ⟨by rw [HX.out.2.1, List.drop_of_length_le (by rw [HN.out]; exact Nat.le_refl _), allF]; show Sum.inr (L ++ []) = _; rw [List.append_nil]⟩
        go_wp2_with (fail)
        exact bodyPost_ret (results_list (rs := [_, _, _]) Tryz.results14 (by simp) (.tmp (.tmp (.tmp .nil)))) rfl ⟨HB.out, by rw [HE.out]; exact ⟨_, _, C, rfl, by rw [HX.out.2.2.2.2]; exact HAI.out, HX.out.2.2.1⟩⟩
set_option maxHeartbeats 32000000 in
set_option maxRecDepth 100000 in
theorem rlines_calls (s : ByteArray) (w : World) (hs : s.size ≤ 20000) : Calls Tryz.prog 35 #[.string s] w fun e w' => ∃ v, e = .returned v ∧ w'.ownsRow w.heap.size 9 1 v (linesF (tl s)).length ((linesF (tl s)).map encS) ∧ Below w.heap.size w w' := by
  obtain ⟨i0, hi0, hz0, hz1, hz2⟩ := info_parts info9
  have HL : Aside0 ((tl s).length = s.size) := ⟨Array.length_toList⟩
  obtain ⟨PP, hPP⟩ : ∃ PP, linesF (tl s) = PP := ⟨_, rfl⟩
  obtain ⟨P, hP⟩ : ∃ P, spl 10 (tl s) = P := ⟨_, rfl⟩
  have HPP : Aside0 (∀ Z x, P = Z ++ [x] → (if x = [] then Z else Z ++ [x]) = PP) := ⟨fun Z x h => by rw [← hPP, linesF_of (hP.trans h)]⟩
  have HP := Aside0.mk hP
  rw [hPP]
  clear hP hPP
  go_enter Tryz.func35, Tryz.ntmps35
  go_wp2_with (fail)
  go_loopw [3, 4, 5] (fun v3 v4 v5 wr => ∃ (i a : Nat) (acc : List BL), i ≤ s.size ∧ a ≤ i ∧ v5 = .int .i64 i ∧ v4 = .int .i64 a ∧ acc.length ≤ i ∧ wr.ownsRow w.heap.size 9 1 v3 acc.length (acc.map encS) ∧ Aside0 (Below w.heap.size w wr ∧ P = acc ++ spl 10 ((tl s).drop a) ∧ ∀ b ∈ tl (s.extract a i), b ≠ 10)) (fun _ _ v5 _ => s.size - (intOf v5).toNat)
  case atStart => exact ⟨0, 0, [], Nat.zero_le _, Nat.le_refl _, rfl, rfl, Nat.le_refl _, World.ownsRow_nil _ _ _ _, ⟨Below.refl _ _, by rw [List.drop_zero, HP.out, List.nil_append], fun b hb => by rw [tl_extract, List.take_zero] at hb; cases hb⟩⟩
  case round =>
    obtain ⟨i, a, acc, hi, ha, rfl, rfl, hacc, hrow, HX⟩ := hrel
    have hzw := HX.out.1.size
    by_cases h1 : i < s.size
    · have h1' : (i : Int) < (s.size : Int) := by omega
      have h0' : (0 : Int) ≤ (i : Int) := by omega
      obtain ⟨b, hb⟩ : ∃ b, s[i]'h1 = b := ⟨_, rfl⟩
      by_cases hc : b = 10
      · have hc' : ((b.toNat : Int) == 10) = true := by rw [hc]; rfl
        obtain ⟨p, hp⟩ : ∃ p, s.extract a i = p := ⟨_, rfl⟩
        have HSP : Aside0 (P = (acc ++ [tl p]) ++ spl 10 ((tl s).drop (i + 1))) := ⟨by
          rw [HX.out.2.1, piece_end ha hi, drop_byte s i h1, hb, hc, hp, spl_hit _ (by rw [← hp]; exact HX.out.2.2), List.append_assoc]
          rfl⟩
        have hsl : ∀ W, (Instr.slice 9 (.string s) (some (.int .i64 (a : Int))) (some (.int .i64 (i : Int))) none).run Tryz.prog W = .ok (.string p) W := fun W => by
          have := run_slice_string (P := Tryz.prog) W 9 s .i64 .i64 (a : Int) (i : Int) Tryz.underlying9 (by omega) (by omega) (by omega)
          rw [this, ← hp]
          rfl
        have HEX : Aside0 (∀ b ∈ tl (s.extract (i + 1) (i + 1)), b ≠ 10) := ⟨fun b hb => by
          rw [tl_extract, List.drop_of_length_le (by rw [List.length_take]; omega)] at hb
          cases hb⟩
        have HENC : Aside0 (encS (tl p) = .string p) := ⟨by unfold encS; rw [mkB_tl]⟩
        clear hc hp
        go_wp2_with (first
          | (at_builtin; refine wpList_append_own _ rfl _ _ 23 rfl w.heap.size 9 i0 (.string ByteArray.empty) 1 16 Tryz.underlying23 hi0 hz0 hz1 hz2 rfl (by decide) _ _ _ rfl (hrow.alloc _) ⟨wr.heap.size, 0, none⟩ 1 1 [.string p] rfl rfl (cell_one_new _ _ _) (by simp [Value.oneCell']) (by unfold maxLen; omega) (by omega) (by simp; omega) ?_; intro v' w3 hown' hg3 hnil3)
          | go_in)
        all_goals
          have HBL : Aside0 (Below w.heap.size w w3) := ⟨(HX.out.1.alloc hzw _).grown hg3 (by simp; omega) (fun j hj => by have := (hrow.lt j hj).1; simpa using this)⟩
          exact ⟨⟨i + 1, i + 1, acc ++ [tl p], by omega, by omega, by simp, by simp, by simp; omega, by rw [List.map_append, List.length_append]; show World.ownsRow _ _ _ _ _ _ (acc.map encS ++ [encS (tl p)]); rw [HENC.out]; exact hown', ⟨HBL.out, HSP.out, HEX.out⟩⟩, by simp [intOf]; omega⟩
      · have hc' : ((b.toNat : Int) == 10) = false := by
          rw [beq_eq_false_iff_ne]
          exact fun q => hc (UInt8.toNat_inj.1 (by show b.toNat = 10; omega))
        have HN : Aside0 (∀ x ∈ tl (s.extract a (i + 1)), x ≠ 10) := ⟨fun x hx => by
          have e : tl (s.extract a (i + 1)) = tl (s.extract a i) ++ [b] := by
            rw [tl_extract, tl_extract, List.take_succ_eq_append_getElem (by rw [HL.out]; exact h1), List.drop_append_of_le_length (by rw [List.length_take, HL.out]; omega)]
            exact congrArg (fun z => _ ++ [z]) hb
          rw [e] at hx
          rcases List.mem_append.1 hx with h | h
          · exact HX.out.2.2 x h
          · rw [List.mem_singleton] at h; rw [h]; exact hc⟩
        clear hc
        go_wp2_with (fail)
        all_goals exact ⟨⟨i + 1, a, acc, by omega, by omega, by simp, rfl, by omega, hrow, ⟨HX.out.1, HX.out.2.1, HN.out⟩⟩, by simp [intOf]; omega⟩
    · have h1' : ¬ (i : Int) < (s.size : Int) := by omega
      obtain rfl : s.size = i := by omega
      have hpe : tl (s.extract a s.size) = (tl s).drop a := by have := piece_end ha hi; rw [drop_fin s _ (Nat.le_refl _), List.append_nil] at this; exact this.symm
      obtain ⟨p, hp⟩ : ∃ p, s.extract a s.size = p := ⟨_, rfl⟩
      have HSP : Aside0 (P = acc ++ [tl p]) := ⟨by
        rw [HX.out.2.1, ← hpe, hp, spl_none (by rw [← hp]; exact HX.out.2.2)]⟩
      have HE := Aside0.mk (HPP.out _ _ HSP.out)
      have hps : p.size = s.size - a := by rw [← hp, ByteArray.size_extract]; omega
      by_cases h2 : a < s.size
      · have h2' : (a : Int) < (s.size : Int) := by omega
        have hsl : ∀ W, (Instr.slice 9 (.string s) (some (.int .i64 (a : Int))) none none).run Tryz.prog W = .ok (.string p) W := fun W => by
          have := run_slice_string_l (P := Tryz.prog) W 9 s Tryz.underlying9 .i64 (a : Int) (by omega) (by omega)
          rw [this, ← hp]
          rfl
        have HENC : Aside0 (encS (tl p) = .string p) := ⟨by unfold encS; rw [mkB_tl]⟩
        have HEE : Aside0 (acc ++ [tl p] = PP) := ⟨by rw [← HE.out, if_neg]; intro q; have := congrArg List.length q; rw [show (tl p).length = p.size from Array.length_toList, List.length_nil] at this; omega⟩
        clear hp hpe
        go_wp2_with (first
          | (at_builtin; refine wpList_append_own _ rfl _ _ 23 rfl w.heap.size 9 i0 (.string ByteArray.empty) 1 16 Tryz.underlying23 hi0 hz0 hz1 hz2 rfl (by decide) _ _ _ rfl (hrow.alloc _) ⟨wr.heap.size, 0, none⟩ 1 1 [.string p] rfl rfl (cell_one_new _ _ _) (by simp [Value.oneCell']) (by unfold maxLen; omega) (by omega) (by simp; omega) ?_; intro v' w3 hown' hg3 hnil3)
          | go_in)
        go_ret
        refine ⟨_, rfl, ?_, (HX.out.1.alloc hzw _).grown hg3 (by simp; omega) (fun j hj => by have := (hrow.lt j hj).1; simpa using this)⟩
        rw [← HEE.out, List.map_append, List.length_append]
        show World.ownsRow _ _ _ _ _ _ (acc.map encS ++ [encS (tl p)])
        rw [HENC.out]
        exact hown'
      · have h2' : ¬ (a : Int) < (s.size : Int) := by omega
        have HEE : Aside0 (acc = PP) := ⟨by rw [← HE.out, if_pos]; apply List.eq_nil_of_length_eq_zero; rw [show (tl p).length = p.size from Array.length_toList]; omega⟩
        clear hp hpe
        go_wp2_with (fail)
        go_ret
        exact ⟨_, rfl, by rw [← HEE.out]; exact hrow, HX.out.1⟩
/-- What the document's All answers. -/
def RAllR (B : Nat) (w' : World) (e : Ending) : Sum (Nat × Bd) (List (Cl × Nat)) → Prop
  | .inl (n, b) => e = .returned (.tuple #[.slice none 0 0, .slice none 0 0, bV b, .int .i64 (n : Int)])
  | .inr L => ∃ vl vn C, e = .returned (.tuple #[vl, vn, bV okB, .int .i64 0]) ∧ AI B w' vl vn C (L.map (·.2)) ∧ C.map (·.1) = L.map (·.1)
theorem res_four {fn : Func} {p a b c : Tmp} (h : fn.results = #[.tmp a, .tmp b, .cell p 31, .tmp c]) (tmps : Array Value) (W : World) (g : Nat) (va vb vc c0 c1 c2 : Value) (hp : tmps.getD p undef = .pointer (some ⟨g, 0, none⟩)) (ha : tmps.getD a undef = va) (hb : tmps.getD b undef = vb) (hc : tmps.getD c undef = vc) (h0 : W.cell? ⟨g, 0, none⟩ = some c0) (h1 : W.cell? ⟨g, 1, none⟩ = some c1) (h2 : W.cell? ⟨g, 2, none⟩ = some c2) :
    (results fn tmps).run Tryz.prog W = .ok (.tuple #[va, vb, .agg #[c0, c1, c2], vc]) W := by
  have hp' : tmps[p]?.getD undef = .pointer (some ⟨g, 0, none⟩) := by simpa using hp
  have ha' : tmps[a]?.getD undef = va := by simpa using ha
  have hb' : tmps[b]?.getD undef = vb := by simpa using hb
  have hc' : tmps[c]?.getD undef = vc := by simpa using hc
  simp [results, h, hp', ha', hb', hc', asAddr, load_bad W g c0 c1 c2 h0 h1 h2, Result.andThen]
theorem rr_open {B : Nat} {w : World} {c : Cl} {v : Value} (h : RR B w c v) : ∃ x : LC, x.1 = c ∧ v = .agg #[.string x.1.1, .slice x.2.1 x.1.2.length x.2.2] ∧ LSt w x.2.1 x.1.2.length x.1.2 ∧ (0 < x.1.2.length → ∀ g o, x.2.1 = some ⟨g, o, none⟩ → B ≤ g) := by
  obtain ⟨a, k, rfl, h1, h2⟩ := h
  refine ⟨(c, a, k), rfl, rfl, h1, fun hn g o e => ?_⟩
  obtain ⟨g', o', e', hg⟩ := h2 hn
  have e : a = some ⟨g, o, none⟩ := e
  rw [e] at e'
  injection e' with e'
  injection e' with e1 _ _
  omega
theorem off_new' {w : World} {B : Nat} {v u : Value} {C : List LC} {L : List Nat} {x : LC} (h : AI B w v u C L) (hx : 0 < x.1.2.length → ∀ g o, x.2.1 = some ⟨g, o, none⟩ → w.heap.size ≤ g) : Off v u x := fun hn g o e => by
  have hg := hx hn g o e
  exact ⟨fun q => by have := (h.1.lt _ q).2; omega, fun q => by have := (h.2.1.lt _ q).2; omega⟩
/-- A call's list lies behind this block. -/
def Far (m : Nat) (x : LC) : Prop := 0 < x.1.2.length → ∀ g o, x.2.1 = some ⟨g, o, none⟩ → m < g
theorem AI.set {B g i : Nat} {w : World} {v u z : Value} {C : List LC} {L : List Nat} (h : AI B w v u C L) (hg : g < B) (hf : ∀ x ∈ C, Far g x) : AI B (w.setCell ⟨g, i, none⟩ z) v u C L := by
  obtain ⟨h1, h2, h3, h4⟩ := h
  refine ⟨ownsRow_setCell_below h1 (a := ⟨g, i, none⟩) hg _, ownsRow_setCell_below h2 (a := ⟨g, i, none⟩) hg _, h3, fun x hx => ⟨?_, (h4 x hx).2⟩⟩
  have q := (h4 x hx).1
  rcases Nat.eq_zero_or_pos x.1.2.length with q0 | q0
  · exact ⟨q.1, q.2.1, fun h => by omega, q.2.2.2⟩
  · obtain ⟨k, o, e, _⟩ := q.2.2.1 q0
    have hk := hf x hx q0 k o e
    rw [e] at q ⊢
    exact lst_set (by omega) q
theorem AI.le {B B' : Nat} {w : World} {v u : Value} {C : List LC} {L : List Nat} (h : AI B w v u C L) (hb : B' ≤ B) : AI B' w v u C L := ⟨own_le h.1 hb, own_le h.2.1 hb, h.2.2.1, h.2.2.2⟩
set_option maxHeartbeats 32000000 in
set_option maxRecDepth 100000 in
theorem rall_calls (s : ByteArray) (w : World) (hs : s.size ≤ 20000) : Calls Tryz.prog 15 #[.string s] w fun e w' => Below w.heap.size w w' ∧ RAllR (w.heap.size + 1) w' e (allF 0 (linesF (tl s))) := by
  obtain ⟨i0, hi0, hz0, hz1, hz2⟩ := info_parts infoC
  obtain ⟨i1, hi1, hy0, hy1, hy2⟩ := info_parts infoN
  have hlen := linesF_len (tl s)
  rw [show (tl s).length = s.size from Array.length_toList] at hlen
  have HMEM : Aside0 (∀ p ∈ linesF (tl s), p.length ≤ s.size) := ⟨fun p hp => by have := mem_size hp; rw [show (tl s).length = s.size from Array.length_toList] at this; exact this⟩
  have HLC : Aside0 (∀ W, Calls Tryz.prog 35 #[.string s] W fun e w' => ∃ v, e = .returned v ∧ w'.ownsRow W.heap.size 9 1 v (linesF (tl s)).length ((linesF (tl s)).map encS) ∧ Below W.heap.size W w') := ⟨fun W => rlines_calls s W hs⟩
  obtain ⟨PP, hPP⟩ : ∃ PP, linesF (tl s) = PP := ⟨_, rfl⟩
  rw [hPP] at hlen HMEM HLC ⊢
  obtain ⟨N, hN⟩ : ∃ N, PP.length = N := ⟨_, rfl⟩
  rw [hN] at hlen HLC
  have HN := Aside0.mk hN
  clear hPP hN
  go_enter Tryz.func15, Tryz.ntmps15
  go_wp2_with (fail)
  refine (HLC.out _).mono ?_
  rintro e w5 ⟨v, rfl, hrow, hb5⟩
  obtain ⟨la, lc, rfl⟩ := own_form hrow
  have HLS : Aside0 (LSt w5 la N (PP.map mkB)) := ⟨own_lst (by rw [List.map_map]; exact hrow) (by omega) (fun y hy => by
    obtain ⟨p, hp, rfl⟩ := List.mem_map.1 hy
    rw [mkB_size]
    have := HMEM.out p hp
    omega)⟩
  have HB5 : Aside0 (Below w.heap.size w w5) := ⟨below_step (w := w) ((Below.refl _ _).alloc (Nat.le_refl _) _) hb5⟩
  have HR0 : Aside0 (w5.cell? ⟨w.heap.size, 0, none⟩ = some (.int .i64 0) ∧ w5.cell? ⟨w.heap.size, 1, none⟩ = some (.string ⟨#[]⟩) ∧ w5.cell? ⟨w.heap.size, 2, none⟩ = some (.int .i64 0) ∧ ∀ j, w5.frozen? ⟨w.heap.size, j, none⟩ = false) := ⟨pw_cell_below hb5 (by simp), pw_cell_below hb5 (by simp), pw_cell_below hb5 (by simp), fun j => (hb5.frozen (p := ⟨w.heap.size, j, none⟩) (by simp)).trans (by simp)⟩
  have hz5 : w.heap.size + 1 ≤ w5.heap.size := by have := hb5.size; simpa using this
  clear hrow hb5 HLC
  go_wp2_with (fail)
  go_loopw [7, 8, 9, 10, 11] (fun v7 v8 v9 v10 v11 wr => ∃ (j : Nat) (C : List LC) (L : List (Cl × Nat)) (LN : List Nat), j ≤ N ∧ v9 = .int .i64 j ∧ AI w5.heap.size wr v7 v8 C LN ∧ Aside0 (Below w5.heap.size w5 wr ∧ allF 0 PP = preA L (allF j (PP.drop j)) ∧ C.map (·.1) = L.map (·.1) ∧ C.length ≤ j ∧ L.map (·.2) = LN ∧ ∀ x ∈ C, Far w.heap.size x)) (fun _ _ v9 _ _ _ => N - (intOf v9).toNat)
  case atStart => exact ⟨0, [], [], [], Nat.zero_le _, rfl, AI.nil _ _, ⟨Below.refl _ _, by rw [preA_nil, List.drop_zero], rfl, Nat.le_refl _, rfl, fun x h => by cases h⟩⟩
  case round =>
    obtain ⟨j, C, L, LN, hj, rfl, hAI, HX⟩ := hrel
    have HAI := Aside0.mk hAI
    have HB : Aside0 (Below w.heap.size w wr) := ⟨below_step (w := w) HB5.out HX.out.1⟩
    have hzw : w5.heap.size ≤ wr.heap.size := HX.out.1.size
    have HRW : Aside0 (wr.cell? ⟨w.heap.size, 0, none⟩ = some (.int .i64 0) ∧ wr.cell? ⟨w.heap.size, 1, none⟩ = some (.string ⟨#[]⟩) ∧ wr.cell? ⟨w.heap.size, 2, none⟩ = some (.int .i64 0) ∧ ∀ j, wr.frozen? ⟨w.heap.size, j, none⟩ = false) := ⟨pw_cell_below HX.out.1 HR0.out.1, pw_cell_below HX.out.1 HR0.out.2.1, pw_cell_below HX.out.1 HR0.out.2.2.1, fun j => (HX.out.1.frozen (p := ⟨w.heap.size, j, none⟩) hz5).trans (HR0.out.2.2.2 j)⟩
    have HCL : Aside0 (C.length ≤ 30000 ∧ LN.length = C.length) := ⟨by have := HX.out.2.2.2.1; omega, by have := congrArg List.length HX.out.2.2.1; rw [List.length_map, List.length_map] at this; rw [← HX.out.2.2.2.2.1, List.length_map, this]⟩
    clear hAI
    by_cases h1 : j < N
    · have h1' : (j : Int) < (N : Int) := by omega
      have h0' : (0 : Int) ≤ (j : Int) := by omega
      have hjl : j < PP.length := by rw [HN.out]; exact h1
      obtain ⟨p, hp⟩ : ∃ p, PP[j] = p := ⟨_, rfl⟩
      obtain ⟨lg, lo, rfl, hcell⟩ := HLS.out.2.2.1 (by omega)
      have a1 : wr.cell? ⟨lg, lo + j, none⟩ = some (.string (mkB p)) := pw_cell_below HX.out.1 (by have := hcell j (by rw [List.length_map]; exact hjl); rw [List.getElem_map, hp] at this; exact this)
      have HD : Aside0 (PP.drop j = p :: PP.drop (j + 1)) := ⟨by rw [List.drop_eq_getElem_cons hjl, hp]⟩
      have HPS : Aside0 ((mkB p).size ≤ s.size) := ⟨by rw [mkB_size, ← hp]; exact HMEM.out _ (List.getElem_mem hjl)⟩
      clear hjl hp hcell
      have HO : Aside0 (∀ W, Calls Tryz.prog 32 #[.string (mkB p)] W fun e w' => e = .returned (.bool (overF p)) ∧ W = w') := ⟨fun W => by have := rover_calls (mkB p) W; rw [tl_mkB] at this; exact this⟩
      cases ho : overF p
      case true =>
        rw [ho] at HO
        have HS : Aside0 (allF 0 PP = preA L (allF (j + 1) (PP.drop (j + 1)))) := ⟨by rw [HX.out.2.1, HD.out, allF_over _ _ ho]⟩
        clear ho
        go_wp2_with (fail)
        refine (HO.out _).mono ?_
        rintro e w7 ⟨rfl, rfl⟩
        go_wp2_with (fail)
        all_goals exact ⟨⟨j + 1, C, L, LN, by omega, by simp, HAI.out, ⟨HX.out.1, HS.out, HX.out.2.2.1, by have := HX.out.2.2.2.1; omega, HX.out.2.2.2.2⟩⟩, by simp [intOf]; omega⟩
      case false =>
        rw [ho] at HO
        have HSB : Aside0 ((readF (mkB p)).2.1 ≠ 0 → allF 0 PP = .inl (j + 1, (readF (mkB p)).2)) := ⟨fun q => by rw [HX.out.2.1, HD.out, allF_bad _ _ ho q]; rfl⟩
        have HSO : Aside0 ((readF (mkB p)).2.1 = 0 → allF 0 PP = preA (L ++ [((readF (mkB p)).1, j + 1)]) (allF (j + 1) (PP.drop (j + 1)))) := ⟨fun q => by rw [HX.out.2.1, HD.out, allF_ok _ _ ho q, preA_preA]⟩
        clear ho
        go_wp2_with (fail)
        refine (HO.out _).mono ?_
        rintro e w7 ⟨rfl, rfl⟩
        go_wp2_with (fail)
        refine (rread_calls (mkB p) _).mono ?_
        rintro e w6 ⟨cv, rfl, hR, hb6⟩
        obtain ⟨x, hx1, rfl, hx2, hx3⟩ := rr_open hR
        have HR : Aside0 (x.1 = (readF (mkB p)).1 ∧ LSt w6 x.2.1 x.1.2.length x.1.2 ∧ (∀ v u : Value, AI w5.heap.size wr v u C LN → Off v u x) ∧ Far w.heap.size x) := ⟨hx1, hx2, fun v u h => off_new' h hx3, fun hn g o e => by have := hx3 hn g o e; omega⟩
        have HB6 := Aside0.mk hb6
        have hz6 := hb6.size
        clear hR hb6 hx1 hx2 hx3 a1
        rcases hrd : (readF (mkB p)).2 with ⟨cc, wh, at_⟩
        rw [hrd] at HSB HSO
        unfold bV
        clear hrd
        have d0 := pw_cell_below HB6.out HRW.out.1
        have d1 := pw_cell_below HB6.out HRW.out.2.1
        have d2 := pw_cell_below HB6.out HRW.out.2.2.1
        have HF6 : Aside0 (∀ j, w6.frozen? ⟨w.heap.size, j, none⟩ = false) := ⟨fun j => (HB6.out.frozen (p := ⟨w.heap.size, j, none⟩) (show w.heap.size < wr.heap.size by omega)).trans (HRW.out.2.2.2 j)⟩
        by_cases hcc : cc = 0
        · subst hcc
          have HA1 := Aside0.mk (HSO.out rfl)
          clear HSB HSO d0 d1 d2
          have HB67 : Aside0 (Below w6.heap.size w6 (((w6.alloc (.cells #[.string x.1.1, .slice x.2.1 x.1.2.length x.2.2] 25)).alloc (.cells #[.int .i64 ((0 : Nat) : Int), .string wh, .int .i64 at_] 31)).alloc (.cells #[.string x.1.1, .slice x.2.1 x.1.2.length x.2.2] 25))) := ⟨(((Below.refl _ _).alloc (Nat.le_refl _) _).alloc (by simp) _).alloc (by simp; omega) _⟩
          have HN7 : Aside0 (∀ jj u, (encC x)[jj]? = some u → (((w6.alloc (.cells #[.string x.1.1, .slice x.2.1 x.1.2.length x.2.2] 25)).alloc (.cells #[.int .i64 ((0 : Nat) : Int), .string wh, .int .i64 at_] 31)).alloc (.cells #[.string x.1.1, .slice x.2.1 x.1.2.length x.2.2] 25)).cell? ((⟨w6.heap.size + 1 + 1, 0, none⟩ : Addr).add jj) = some u) := ⟨fun jj u hh => by
            have q := cell_two_new ((w6.alloc (.cells #[.string x.1.1, .slice x.2.1 x.1.2.length x.2.2] 25)).alloc (.cells #[.int .i64 ((0 : Nat) : Int), .string wh, .int .i64 at_] 31)) (.string x.1.1) (.slice x.2.1 x.1.2.length x.2.2) 25 jj u hh
            rw [show ((w6.alloc (.cells #[.string x.1.1, .slice x.2.1 x.1.2.length x.2.2] 25)).alloc (.cells #[.int .i64 ((0 : Nat) : Int), .string wh, .int .i64 at_] 31)).heap.size = w6.heap.size + 1 + 1 by simp] at q
            exact q⟩
          have HA7 : Aside0 (AI w5.heap.size (((w6.alloc (.cells #[.string x.1.1, .slice x.2.1 x.1.2.length x.2.2] 25)).alloc (.cells #[.int .i64 ((0 : Nat) : Int), .string wh, .int .i64 at_] 31)).alloc (.cells #[.string x.1.1, .slice x.2.1 x.1.2.length x.2.2] 25)) u7 u8 C LN) := ⟨(HAI.out.below HB6.out).below HB67.out⟩
          have HX7 : Aside0 (LSt (((w6.alloc (.cells #[.string x.1.1, .slice x.2.1 x.1.2.length x.2.2] 25)).alloc (.cells #[.int .i64 ((0 : Nat) : Int), .string wh, .int .i64 at_] 31)).alloc (.cells #[.string x.1.1, .slice x.2.1 x.1.2.length x.2.2] 25)) x.2.1 x.1.2.length x.1.2 ∧ Off u7 u8 x) := ⟨HR.out.2.1.below HB67.out, HR.out.2.2.1 _ _ HAI.out⟩
          have HB7 : Aside0 (Below w5.heap.size w5 (((w6.alloc (.cells #[.string x.1.1, .slice x.2.1 x.1.2.length x.2.2] 25)).alloc (.cells #[.int .i64 ((0 : Nat) : Int), .string wh, .int .i64 at_] 31)).alloc (.cells #[.string x.1.1, .slice x.2.1 x.1.2.length x.2.2] 25))) := ⟨below_step (below_step HX.out.1 HB6.out) HB67.out⟩
          have HLL := Aside0.mk HCL.out.2
          go_wp2_with (first
            | (at_builtin; refine wpList_append_own_at _ rfl _ _ 37 rfl w5.heap.size 25 i0 (.agg #[.string ByteArray.empty, .slice none 0 0]) 2 40 Tryz.underlying37 hi0 hz0 hz1 hz2 rfl (by decide) _ C.length (C.flatMap encC) rfl HA7.out.1 ⟨w6.heap.size + 1 + 1, 0, none⟩ 1 1 (encC x) rfl rfl HN7.out (by simp [Value.oneCell', encC]) (by have := HCL.out.1; unfold maxLen; omega) (by have := HCL.out.1; omega) (by simp; omega) ?_; intro v' w3 hown' hg3 hnil3 hat3; have HA3 := Aside0.mk (HA7.out.call HX7.out.1 HX7.out.2 hown' hg3 hat3); have HB3 := Aside0.mk (HB7.out.grown hg3 HB7.out.size (fun j hj => (HA7.out.1.lt j hj).1)); have HA3b := Aside0.mk (HA3.out.below (w' := w3.alloc (.cells #[.int .i64 ((j : Int) + 1)] 3)) ((Below.refl _ _).alloc (Nat.le_refl _) _)); have hz3 := hg3.size; clear hown' hg3 hnil3 hat3)
            | (at_builtin; refine wpList_append_own_at _ rfl _ _ 38 rfl w5.heap.size 3 i1 (.int .i64 0) 1 8 Tryz.underlying38 hi1 hy0 hy1 hy2 rfl (by decide) _ LN.length (LN.map encN) rfl HA3b.out.2.1 ⟨w3.heap.size, 0, none⟩ 1 1 [.int .i64 ((j : Int) + 1)] rfl rfl (cell_one_new _ _ _) (by simp [Value.oneCell']) (by have h1 := HCL.out.1; have h2 := HLL.out; unfold maxLen; omega) (by have h1 := HCL.out.1; have h2 := HLL.out; omega) (by have h2 := HB3.out.size; simp; omega) ?_; intro v'' w4 hown'' hg4 hnil4 hat4)
            | go_in)
          all_goals
            have HA4 := HA3b.out.line (n := j + 1) hown'' hg4 hat4
            have HB4 : Below w5.heap.size w5 w4 := (HB3.out.alloc HB3.out.size _).grown hg4 (by have h2 := HB3.out.size; simp; omega) (fun j hj => (HA3b.out.2.1.lt j hj).1)
            exact ⟨⟨j + 1, C ++ [x], L ++ [((readF (mkB p)).1, j + 1)], LN ++ [j + 1], by omega, rfl, HA4, ⟨HB4, HA1.out, by rw [List.map_append, List.map_append, HX.out.2.2.1, ← HR.out.1]; rfl, by have := HX.out.2.2.2.1; rw [List.length_append, List.length_singleton]; omega, by rw [List.map_append, HX.out.2.2.2.2.1]; rfl, fun y hy => by rcases List.mem_append.1 hy with q | q; exact HX.out.2.2.2.2.2 y q; rw [List.mem_singleton] at q; rw [q]; exact HR.out.2.2.2⟩⟩, by simp [intOf]; omega⟩
        · have hcc' : ¬ (cc : Int) = 0 := by omega
          have HBA := Aside0.mk (HSB.out hcc)
          have HB67 : Aside0 (Below w6.heap.size w6 ((w6.alloc (.cells #[.string x.1.1, .slice x.2.1 x.1.2.length x.2.2] 25)).alloc (.cells #[.int .i64 (cc : Int), .string wh, .int .i64 at_] 31))) := ⟨((Below.refl _ _).alloc (Nat.le_refl _) _).alloc (by simp) _⟩
          have hz6' : w.heap.size < w6.heap.size := by omega
          have e2 := pw_cell_below HB67.out d0
          have e3 := pw_cell_below HB67.out d1
          have e4 := pw_cell_below HB67.out d2
          have f2 := (HB67.out.frozen (p := ⟨w.heap.size, 0, none⟩) hz6').trans (HF6.out 0)
          have f3 := (HB67.out.frozen (p := ⟨w.heap.size, 1, none⟩) hz6').trans (HF6.out 1)
          have f4 := (HB67.out.frozen (p := ⟨w.heap.size, 2, none⟩) hz6').trans (HF6.out 2)
          have g0 : ((w6.alloc (.cells #[.string x.1.1, .slice x.2.1 x.1.2.length x.2.2] 25)).alloc (.cells #[.int .i64 (cc : Int), .string wh, .int .i64 at_] 31)).cell? ⟨w6.heap.size + 1, 0, none⟩ = some (.int .i64 (cc : Int)) := by simp
          have g1 : ((w6.alloc (.cells #[.string x.1.1, .slice x.2.1 x.1.2.length x.2.2] 25)).alloc (.cells #[.int .i64 (cc : Int), .string wh, .int .i64 at_] 31)).cell? ⟨w6.heap.size + 1, 1, none⟩ = some (.string wh) := by simp
          have g2 : ((w6.alloc (.cells #[.string x.1.1, .slice x.2.1 x.1.2.length x.2.2] 25)).alloc (.cells #[.int .i64 (cc : Int), .string wh, .int .i64 at_] 31)).cell? ⟨w6.heap.size + 1, 2, none⟩ = some (.int .i64 at_) := by simp
          have HB8 : Aside0 (Below w.heap.size w ((w6.alloc (.cells #[.string x.1.1, .slice x.2.1 x.1.2.length x.2.2] 25)).alloc (.cells #[.int .i64 (cc : Int), .string wh, .int .i64 at_] 31))) := ⟨below_step (w := w) (below_step (w := w) HB.out HB6.out) HB67.out⟩
          obtain ⟨w8, hw8⟩ : ∃ w8, (w6.alloc (.cells #[.string x.1.1, .slice x.2.1 x.1.2.length x.2.2] 25)).alloc (.cells #[.int .i64 (cc : Int), .string wh, .int .i64 at_] 31) = w8 := ⟨_, rfl⟩
          rw [hw8] at e2 e3 e4 f2 f3 f4 g0 g1 g2 HB8
          clear d0 d1 d2 HSB HSO
          go_wp2_with (fail)
          try rw [hw8]
          clear hw8 HB67
          have HSB := Aside0.mk (set_bad (w := w) (w6 := w8) (g := w.heap.size) (a := .int .i64 (cc : Int)) (b := .string wh) (c := .int .i64 at_) (Nat.le_refl _) HB8.out (by rw [e2]; rfl) (by rw [e3]; rfl) (by rw [e4]; rfl))
          go_region
          go_wp2_with (fail)
          refine bodyPost_ret (res_four Tryz.results15 _ _ w.heap.size _ _ _ _ _ _ rfl rfl rfl rfl ((cell_drew _ _).trans HSB.out.2.1) ((cell_drew _ _).trans HSB.out.2.2.1) ((cell_drew _ _).trans HSB.out.2.2.2)) rfl ⟨below_drew1 HSB.out.1, ?_⟩
          rw [HBA.out]
          rfl
    · have h1' : ¬ (j : Int) < (N : Int) := by omega
      obtain rfl : N = j := by omega
      have HE : Aside0 (allF 0 PP = .inr L) := ⟨by rw [HX.out.2.1, List.drop_of_length_le (by rw [HN.out]; exact Nat.le_refl _), allF]; show Sum.inr (L ++ []) = _; rw [List.append_nil]⟩
      have hzl : w.heap.size < wr.heap.size := by omega
      go_wp2_with (fail)
      refine (none_calls _).mono ?_
      unfold bV okB
      rintro e w6 ⟨rfl, hb6⟩
      have d0 := pw_cell_below hb6 HRW.out.1
      have d1 := pw_cell_below hb6 HRW.out.2.1
      have d2 := pw_cell_below hb6 HRW.out.2.2.1
      have f0 := (hb6.frozen (p := ⟨w.heap.size, 0, none⟩) hzl).trans (HRW.out.2.2.2 0)
      have f1 := (hb6.frozen (p := ⟨w.heap.size, 1, none⟩) hzl).trans (HRW.out.2.2.2 1)
      have f2 := (hb6.frozen (p := ⟨w.heap.size, 2, none⟩) hzl).trans (HRW.out.2.2.2 2)
      have HSB := fun (a b c : Value) => Aside0.mk (set_bad (w := w) (w6 := w6) (g := w.heap.size) (a := a) (b := b) (c := c) (Nat.le_refl _) (below_step (w := w) HB.out hb6) (by rw [d0]; rfl) (by rw [d1]; rfl) (by rw [d2]; rfl))
      have HA6 := Aside0.mk (HAI.out.below hb6)
      clear hb6
      go_wp2_with (fail)
      refine bodyPost_ret (res_four Tryz.results15 _ _ w.heap.size _ _ _ _ _ _ rfl rfl rfl rfl (HSB _ _ _).out.2.1 (HSB _ _ _).out.2.2.1 (HSB _ _ _).out.2.2.2) rfl ⟨(HSB _ _ _).out.1, ?_⟩
      rw [HE.out]
      exact ⟨_, _, C, rfl, by rw [HX.out.2.2.2.2.1]; exact (((HA6.out.set (by omega) HX.out.2.2.2.2.2).set (by omega) HX.out.2.2.2.2.2).set (by omega) HX.out.2.2.2.2.2).le hz5, HX.out.2.2.1⟩
set_option maxHeartbeats 8000000 in
theorem unwrapU_calls (e h c : Nat) (w : World) (h0 : w.cell? ⟨e, 0, none⟩ = some (.int .i64 (c : Int))) (h3 : w.cell? ⟨e, 3, none⟩ = some (.iface 43 (.pointer (some ⟨h, 0, none⟩)))) : Calls Tryz.prog 141 #[.pointer (some ⟨e, 0, none⟩)] w fun ev w' => ∃ b, ev = .returned (.slice (some ⟨b, 0, none⟩) 2 2) ∧ w'.cell? ⟨b, 0, none⟩ = some (.iface 46 (.int .i64 c)) ∧ w'.cell? ⟨b, 1, none⟩ = some (.iface 43 (.pointer (some ⟨h, 0, none⟩))) ∧ Below w.heap.size w w' := by
  have n1 : ∀ (v : Value) (w : World), (binOp .eql 27 (.iface 43 v) .nilIface).run Tryz.prog w = .ok (.bool false) w := fun v w => by kernel_rfl
  go_enter Tryz.func141, Tryz.ntmps141
  go_wp2
  go_region
  go_wp2_with (fail)
  refine bodyPost_ret (results_single Tryz.results141 (.tmp .nil)) rfl ⟨_, rfl, ?_, ?_, ?_⟩
  · simp
  · simp
  · exact below_drew1 ((Below.refl _ _).alloc (Nat.le_refl _) _)
theorem neq_errno (c d : Nat) (hcd : c ≠ d) (w : World) : (binOp .eql 27 (.iface 46 (.int .i64 (c : Int))) (.iface 46 (.int .i64 (d : Int)))).run Tryz.prog w = .ok (.bool false) w := by
  have hcd' : ((c : Int) == (d : Int)) = false := by rw [beq_eq_false_iff_ne]; omega
  have h : ∀ n : Nat, (Op.equalIn (n + 2) 27 (.iface 46 (.int .i64 (c : Int))) (.iface 46 (.int .i64 (d : Int)))).run Tryz.prog w = .ok false w := fun n => by
    have hc : Tryz.t46.comparable = true := by kernel_rfl
    simp [hc, hcd', hcd, Op.equalIn, run_underlying Tryz.underlying27, run_underlying Tryz.underlying46]
  simp only [binOp]
  simp [Op.equal, Op.maxDepth, h 9998]
theorem noIs72 (v : Value) (xT : TypeId) (w : World) : (Instr.typeAssert (.iface 46 v) xT 121 true).run Tryz.prog w = .ok (.tuple #[.nilIface, .bool false]) w := run_typeAssert_lacksB Tryz.underlying121 (by kernel_rfl) (by kernel_rfl) v xT w
theorem noUnwrap72 (v : Value) (xT : TypeId) (w : World) : (Instr.typeAssert (.iface 46 v) xT 116 true).run Tryz.prog w = .ok (.tuple #[.nilIface, .bool false]) w := run_typeAssert_lacksB Tryz.underlying116 (by kernel_rfl) (by kernel_rfl) v xT w
theorem noUnwraps72 (v : Value) (xT : TypeId) (w : World) : (Instr.typeAssert (.iface 46 v) xT 118 true).run Tryz.prog w = .ok (.tuple #[.nilIface, .bool false]) w := run_typeAssert_lacksB Tryz.underlying118 (by kernel_rfl) (by kernel_rfl) v xT w
set_option maxHeartbeats 16000000 in
set_option maxRecDepth 100000 in
theorem is0_calls (c d : Nat) (hcd : c ≠ d) (w : World) : Calls Tryz.prog 41 #[.iface 46 (.int .i64 (c : Int)), .iface 46 (.int .i64 (d : Int)), .bool true] w fun ev w' => ev = .returned (.bool false) ∧ w = w' := by
  have h0 := neq_errno c d hcd
  have a1 := noIs72
  have a2 := noUnwrap72
  have a3 := noUnwraps72
  clear hcd
  go_enter Tryz.func41, Tryz.ntmps41
  go_wp2
  refine wp_loop_rounds 1 ?_
  rw [rounds_succ]
  go_wp2
  go_ret
  exact ⟨rfl, rfl⟩
set_option maxHeartbeats 16000000 in
set_option maxRecDepth 100000 in
theorem isU_same (e h c : Nat) (w : World) (h0 : w.cell? ⟨e, 0, none⟩ = some (.int .i64 (c : Int))) (h3 : w.cell? ⟨e, 3, none⟩ = some (.iface 43 (.pointer (some ⟨h, 0, none⟩)))) : Calls Tryz.prog 41 #[.iface 43 (.pointer (some ⟨e, 0, none⟩)), .iface 46 (.int .i64 c), .bool true] w fun ev w' => ev = .returned (.bool true) ∧ Below w.heap.size w w' := by
  have HU := Aside0.mk (unwrapU_calls e h c w h0 h3)
  clear h0 h3
  have t0 := fun (v v' : Value) (w : World) => run_eql_iface_types (P := Tryz.prog) 43 46 v v' Tryz.underlying27 (by decide) w
  have a1 := noIs90
  have a2 := noUnwrap90
  have a3 := hasUnwraps90
  have m1 := methodUnwrap90
  have n1 := neq_nil72
  go_enter Tryz.func41, Tryz.ntmps41
  go_wp2_with (fail)
  refine wp_loop_rounds 1 ?_
  rw [rounds_succ]
  go_wp2_with (fail)
  refine HU.out.mono ?_
  rintro ev w1 ⟨b, rfl, q0, q1, hbU⟩
  have HBU := Aside0.mk hbU
  clear hbU
  go_wp2_with (fail)
  refine wp_loop_rounds 1 ?_
  rw [rounds_succ]
  go_wp2_with (fail)
  refine (is1_calls c _).mono ?_
  rintro ev w2 ⟨rfl, rfl⟩
  go_wp2_with (fail)
  go_ret
  exact ⟨rfl, HBU.out⟩
set_option maxHeartbeats 16000000 in
set_option maxRecDepth 100000 in
theorem isU_under (e h c d : Nat) (hcd : c ≠ d) (name : ByteArray) (k : Int) (w : World) (h0 : w.cell? ⟨e, 0, none⟩ = some (.int .i64 (c : Int))) (h3 : w.cell? ⟨e, 3, none⟩ = some (.iface 43 (.pointer (some ⟨h, 0, none⟩)))) (hF : FA w h d name k) : Calls Tryz.prog 41 #[.iface 43 (.pointer (some ⟨e, 0, none⟩)), .iface 46 (.int .i64 d), .bool true] w fun ev w' => ev = .returned (.bool true) ∧ Below w.heap.size w w' := by
  have HU := Aside0.mk (unwrapU_calls e h c w h0 h3)
  have HF := Aside0.mk hF
  have HI0 := Aside0.mk (is0_calls c d hcd)
  clear h0 h3 hF hcd
  have t0 := fun (v v' : Value) (w : World) => run_eql_iface_types (P := Tryz.prog) 43 46 v v' Tryz.underlying27 (by decide) w
  have a1 := noIs90
  have a2 := noUnwrap90
  have a3 := hasUnwraps90
  have m1 := methodUnwrap90
  have n1 := neq_nil72
  go_enter Tryz.func41, Tryz.ntmps41
  go_wp2_with (fail)
  refine wp_loop_rounds 1 ?_
  rw [rounds_succ]
  go_wp2_with (fail)
  refine HU.out.mono ?_
  rintro ev w1 ⟨b, rfl, q0, q1, hbU⟩
  have HBU := Aside0.mk hbU
  clear hbU
  go_wp2_with (fail)
  refine wp_loop_rounds 2 ?_
  rw [rounds_succ]
  go_wp2_with (fail)
  refine (HI0.out _).mono ?_
  rintro ev w2 ⟨rfl, rfl⟩
  go_wp2_with (fail)
  rw [rounds_succ]
  go_wp2_with (fail)
  refine (is2_calls h d name k _ (HF.out.below HBU.out)).mono ?_
  rintro ev w2 ⟨rfl, hb⟩
  have HB := Aside0.mk (below_step (w := w) HBU.out hb)
  clear hb
  go_wp2_with (fail)
  go_ret
  exact ⟨rfl, HB.out⟩
set_option maxHeartbeats 16000000 in
set_option maxRecDepth 100000 in
theorem isG_calls (e c : Nat) (w : World) (HI0 : Calls Tryz.prog 41 #[.iface 43 (.pointer (some ⟨e, 0, none⟩)), .iface 46 (.int .i64 c), .bool true] w fun ev w' => ev = .returned (.bool true) ∧ Below w.heap.size w w') : Calls Tryz.prog 17 #[.iface 43 (.pointer (some ⟨e, 0, none⟩)), .iface 46 (.int .i64 c)] w fun ev w' => ev = .returned (.bool true) ∧ Below w.heap.size w w' := by
  have HI := Aside0.mk HI0
  clear HI0
  have h76 := @run_callFunc_extern Tryz.prog 40 _ Extern.ReflectliteType.typeOf Tryz.func40 (by kernel_rfl) (by kernel_rfl) (by kernel_rfl) (by kernel_rfl)
  have h136 := @run_callFunc_extern Tryz.prog 149 _ (ReflectliteType.method fun t => do Rtype.noPackHeld "Comparable" t; pure (.bool (← typeInfo t).comparable)) Tryz.func149 (by kernel_rfl) (by kernel_rfl) (by kernel_rfl) (by kernel_rfl)
  have tT := typeOf72
  have mC := methodComparable
  have cC : ∀ w : World, ((ReflectliteType.method fun t => do Rtype.noPackHeld "Comparable" t; (fun a : TypeInfo => Value.bool a.comparable) <$> typeInfo t) #[.agg #[.pointer (some ⟨9, 46, none⟩)]]).run Tryz.prog w = .ok (.bool true) w := fun w => by kernel_rfl
  have n1 := neq_nil72
  go_enter Tryz.func17, Tryz.ntmps17
  go_wp2_with (fail)
  refine HI.out.mono ?_
  rintro ev w1 ⟨rfl, hb⟩
  go_wp2_with (fail)
  go_ret
  exact ⟨rfl, hb⟩
/-- The number of a fault, or of the fault under it, is found. -/
theorem isU_calls (e h c d : Nat) (name : ByteArray) (k : Int) (w : World) (h0 : w.cell? ⟨e, 0, none⟩ = some (.int .i64 (c : Int))) (h3 : w.cell? ⟨e, 3, none⟩ = some (.iface 43 (.pointer (some ⟨h, 0, none⟩)))) (hF : FA w h d name k) (x : Nat) (hx : x = c ∨ x = d) : Calls Tryz.prog 17 #[.iface 43 (.pointer (some ⟨e, 0, none⟩)), .iface 46 (.int .i64 (x : Int))] w fun ev w' => ev = .returned (.bool true) ∧ Below w.heap.size w w' := by
  refine isG_calls e x w ?_
  by_cases hc : x = c
  · subst hc
    exact isU_same e h x w h0 h3
  · rcases hx with q | q
    · exact absurd q hc
    · subst q
      exact isU_under e h c x (fun q => hc q.symm) name k w h0 h3 hF
/-- The law's lives. -/
theorem lives_calls (w : World) (hG : GW w) : Calls Tryz.prog 9 #[] w fun e w' => e = .returned (.bool true) ∧ Below w.heap.size w w' := lives_of ⟨is_ok⟩ w hG
theorem allF_pos : ∀ (l : List BL) (k : Nat) {n : Nat} {b : Bd}, allF k l = .inl (n, b) → 0 < n ∧ b.1 ≠ 0
  | [], k, n, b, h => by cases h
  | p :: r, k, n, b, h => by
    cases ho : overF p
    · by_cases hr : (readF (mkB p)).2.1 = 0
      · rw [allF_ok k r ho hr] at h
        cases hq : allF (k + 1) r with
        | inl y =>
          rw [hq] at h
          injection h with h
          have h : y = (n, b) := h
          subst h
          exact allF_pos r (k + 1) hq
        | inr y => rw [hq] at h; cases h
      · rw [allF_bad k r ho hr] at h
        injection h with h
        injection h with h1 h2
        exact ⟨by omega, by rw [← h2]; exact hr⟩
    · rw [allF_over k r ho] at h
      exact allF_pos r (k + 1) h
/-- What the region's loads read: the fault f with the fault h under it, what is wrong at m, the pointer behind it. -/
def SU (f h m : Nat) (n : Int) (c : Nat) (name : ByteArray) (k : Int) (w : World) : Prop := w.cell? ⟨f, 0, none⟩ = some (.int .i64 303) ∧ w.cell? ⟨f, 1, none⟩ = some (.string ⟨#[]⟩) ∧ w.cell? ⟨f, 2, none⟩ = some (.int .i64 n) ∧ w.cell? ⟨f, 3, none⟩ = some (.iface 43 (.pointer (some ⟨h, 0, none⟩))) ∧ w.cell? ⟨m, 0, none⟩ = some (.int .i64 (c : Int)) ∧ w.cell? ⟨m, 1, none⟩ = some (.string name) ∧ w.cell? ⟨m, 2, none⟩ = some (.int .i64 k) ∧ w.cell? ⟨m + 1, 0, none⟩ = some (.pointer (some ⟨f, 0, none⟩))
theorem SU.below {f h m c : Nat} {name : ByteArray} {n k : Int} {w w1 : World} (q : SU f h m n c name k w) (hb : Below w.heap.size w w1) : SU f h m n c name k w1 := by
  obtain ⟨h0, h1, h2, h3, h4, h5, h6, h7⟩ := q
  exact ⟨pw_cell_below hb h0, pw_cell_below hb h1, pw_cell_below hb h2, pw_cell_below hb h3, pw_cell_below hb h4, pw_cell_below hb h5, pw_cell_below hb h6, pw_cell_below hb h7⟩
theorem su_after {w2 wz w6 : World} {f h c : Nat} {name : ByteArray} {n k : Int} (hF : FU w2 f n (.iface 43 (.pointer (some ⟨h, 0, none⟩)))) (hH : FA w2 h c name k)
    (hz : Below w2.heap.size w2 wz) (c0 : wz.cell? ⟨w2.heap.size, 0, none⟩ = some (.int .i64 (c : Int))) (c1 : wz.cell? ⟨w2.heap.size, 1, none⟩ = some (.string name)) (c2 : wz.cell? ⟨w2.heap.size, 2, none⟩ = some (.int .i64 k)) (c3 : wz.cell? ⟨w2.heap.size + 1, 0, none⟩ = some (.pointer none))
    (hb : Below wz.heap.size wz w6) :
    SU f h w2.heap.size n c name k (w6.setCell ⟨w2.heap.size + 1, 0, none⟩ (.pointer (some ⟨f, 0, none⟩))) ∧ FA (w6.setCell ⟨w2.heap.size + 1, 0, none⟩ (.pointer (some ⟨f, 0, none⟩))) h c name k ∧ Below w2.heap.size w2 (w6.setCell ⟨w2.heap.size + 1, 0, none⟩ (.pointer (some ⟨f, 0, none⟩))) := by
  have hB : Below w2.heap.size w2 w6 := below_step (w := w2) hz hb
  have hW : Below w2.heap.size w2 (w6.setCell ⟨w2.heap.size + 1, 0, none⟩ (.pointer (some ⟨f, 0, none⟩))) := hB.setCell (Nat.le_succ _) _
  have hy : ∀ (i : Nat) (v : Value), (w6.setCell ⟨w2.heap.size + 1, 0, none⟩ v).cell? ⟨w2.heap.size, i, none⟩ = w6.cell? ⟨w2.heap.size, i, none⟩ := fun i v => World.cell?_setCell_other (h := fun q => by injection q with q; omega) ..
  obtain ⟨f0, f1, f2, f3⟩ := hF.below hW
  exact ⟨⟨f0, f1, f2, f3, by rw [hy]; exact pw_cell_below hb c0, by rw [hy]; exact pw_cell_below hb c1, by rw [hy]; exact pw_cell_below hb c2, World.cell?_setCell_same' _ _ _ (by rw [pw_cell_below hb c3]; rfl)⟩, hH.below hW, hW⟩
set_option maxHeartbeats 32000000 in
set_option maxRecDepth 100000 in
theorem law_bad (s : ByteArray) (w : World) (n : Nat) (b : Bd) (hs : s.size ≤ 20000) (hA : allF 0 (linesF (tl s)) = .inl (n, b)) (hG : GW w) : Calls Tryz.prog 4 #[.string s] w fun e w' => e = .returned (.bool true) ∧ Below w.heap.size w w' := by
  have hs' : ¬ (20000 : Int) < (s.size : Int) := by omega
  have hn := (allF_pos _ _ hA).1
  have hn' : (0 : Int) < (n : Int) := by omega
  have HG := Aside0.mk hG
  have HAC := Aside0.mk (all_calls s w hs hG.1 hG.2.1 hG.2.2.1)
  have HRC : Aside0 (∀ W, _) := ⟨fun W => rall_calls s W hs⟩
  rw [hA] at HAC HRC
  clear hA hG hs
  go_enter Tryz.func4, Tryz.ntmps4
  go_wp2_with (fail)
  refine HAC.out.mono ?_
  rintro e w1 ⟨hb1, f, ev, rfl, hf1, hF1, hE1, hne⟩
  have HB1 := Aside0.mk hb1
  obtain ⟨c, name, k⟩ := b
  rcases hE1 with ⟨q, _, _⟩ | ⟨hc0, h, rfl, hh1, hH1⟩
  · exact absurd q hne
  have HF1 := Aside0.mk hF1
  have HH1 := Aside0.mk hH1
  clear hb1 hF1 hH1 hne
  go_wp2_with (fail)
  refine (HRC.out _).mono ?_
  rintro e w2 ⟨hb2, rfl⟩
  have HB2 := Aside0.mk (below_step (w := w) HB1.out hb2)
  have HF2 := Aside0.mk (HF1.out.below hb2)
  have HH2 := Aside0.mk (HH1.out.below hb2)
  have hz2 := hb2.size
  clear hb2
  unfold bV
  go_wp2_with (fail)
  have HGD : Aside0 (GE ((w2.alloc (.cells #[.int .i64 (c : Int), .string name, .int .i64 k] 31)).alloc (.cells #[.pointer none] 43)).drew ∧ Below w2.heap.size w2 ((w2.alloc (.cells #[.int .i64 (c : Int), .string name, .int .i64 k] 31)).alloc (.cells #[.pointer none] 43)).drew ∧ (((w2.alloc (.cells #[.int .i64 (c : Int), .string name, .int .i64 k] 31)).alloc (.cells #[.pointer none] 43)).drew.cell? ⟨w2.heap.size, 0, none⟩ = some (.int .i64 (c : Int)) ∧ ((w2.alloc (.cells #[.int .i64 (c : Int), .string name, .int .i64 k] 31)).alloc (.cells #[.pointer none] 43)).drew.cell? ⟨w2.heap.size, 1, none⟩ = some (.string name) ∧ ((w2.alloc (.cells #[.int .i64 (c : Int), .string name, .int .i64 k] 31)).alloc (.cells #[.pointer none] 43)).drew.cell? ⟨w2.heap.size, 2, none⟩ = some (.int .i64 k) ∧ ((w2.alloc (.cells #[.int .i64 (c : Int), .string name, .int .i64 k] 31)).alloc (.cells #[.pointer none] 43)).drew.cell? ⟨w2.heap.size + 1, 0, none⟩ = some (.pointer none)) ∧ ((w2.alloc (.cells #[.int .i64 (c : Int), .string name, .int .i64 k] 31)).alloc (.cells #[.pointer none] 43)).drew.frozen? ⟨w2.heap.size + 1, 0, none⟩ = false) := ⟨(HG.out.below HB2.out).2.2.2.below (below_drew1 (((Below.refl _ _).alloc (Nat.le_refl _) _).alloc (by simp) _)), below_drew1 (((Below.refl _ _).alloc (Nat.le_refl _) _).alloc (by simp) _), ⟨by simp, by simp, by simp, by simp⟩, by simp⟩
  refine wp_region_any (by kernel_rfl) ?_
  try (change wpAny _ _ _ _ _ _ _ (World.drew _))
  generalize ((w2.alloc (.cells #[.int .i64 (c : Int), .string name, .int .i64 k] 31)).alloc (.cells #[.pointer none] 43)).drew = wz at *
  refine wpAny_take (i := 0) (oi := { dst := some 31, op := Go.Op.move (Go.Operand.tmp 3), type := _, pos := _, after := _, guard := none }) (v := ?_) rfl (by kernel_rfl) (by kernel_rfl) (by kernel_rfl) (fun _ _ _ h => h) (Or.inl ⟨by rfl, ?_⟩) ?_
  rotate_left
  · intro w; go_simp; first | done | with_reducible rfl
  try simp only [Act.put, List.setIfInBounds_toArray, List.set_cons_zero, List.set_cons_succ]
  refine wpAny_take (i := 1) (oi := { dst := some 32, op := Go.Op.call { callee := Go.Callee.builtin Go.Builtin.len, args := #[Go.Operand.tmp 31], argTypes := #[37] }, type := _, pos := _, after := _, guard := none }) (v := ?_) rfl (by kernel_rfl) (by kernel_rfl) (by kernel_rfl) (fun _ _ _ h => h) (Or.inl ⟨by rfl, ?_⟩) ?_
  rotate_left
  · intro w; go_simp; first | done | with_reducible rfl
  try simp only [Act.put, List.setIfInBounds_toArray, List.set_cons_zero, List.set_cons_succ]
  refine wpAny_take (i := 2) (oi := { dst := some 33, op := Go.Op.binOp Go.BinOp.eql 3 (Go.Operand.tmp 32) (Go.Operand.const (Go.Value.int Go.IntKind.i64 0)) 3, type := _, pos := _, after := _, guard := none }) (v := ?_) rfl (by kernel_rfl) (by kernel_rfl) (by kernel_rfl) (fun _ _ _ h => h) (Or.inl ⟨by rfl, ?_⟩) ?_
  rotate_left
  · intro w; go_simp; first | done | with_reducible rfl
  try simp only [Act.put, List.setIfInBounds_toArray, List.set_cons_zero, List.set_cons_succ]
  refine wpAny_take (i := 3) (oi := { dst := some 34, op := Go.Op.move (Go.Operand.tmp 33), type := _, pos := _, after := _, guard := none }) (v := ?_) rfl (by kernel_rfl) (by kernel_rfl) (by kernel_rfl) (fun _ _ _ h => h) (Or.inl ⟨by rfl, ?_⟩) ?_
  rotate_left
  · intro w; go_simp; first | done | with_reducible rfl
  try simp only [Act.put, List.setIfInBounds_toArray, List.set_cons_zero, List.set_cons_succ]
  refine wpAny_take (i := 4) (oi := { dst := some 35, op := Go.Op.move (Go.Operand.tmp 4), type := _, pos := _, after := _, guard := some (3, true) }) (v := ?_) rfl (by kernel_rfl) (by kernel_rfl) (by kernel_rfl) (fun _ _ _ h => h) (Or.inl ⟨by rfl, ?_⟩) ?_
  rotate_left
  · intro w; go_simp; first | done | with_reducible rfl
  try simp only [Act.put, List.setIfInBounds_toArray, List.set_cons_zero, List.set_cons_succ]
  refine wpAny_take (i := 5) (oi := { dst := some 36, op := Go.Op.call { callee := Go.Callee.builtin Go.Builtin.len, args := #[Go.Operand.tmp 35], argTypes := #[38] }, type := _, pos := _, after := _, guard := some (3, true) }) (v := ?_) rfl (by kernel_rfl) (by kernel_rfl) (by kernel_rfl) (fun _ _ _ h => h) (Or.inl ⟨by rfl, ?_⟩) ?_
  rotate_left
  · intro w; go_simp; first | done | with_reducible rfl
  try simp only [Act.put, List.setIfInBounds_toArray, List.set_cons_zero, List.set_cons_succ]
  refine wpAny_take (i := 6) (oi := { dst := some 37, op := Go.Op.binOp Go.BinOp.eql 3 (Go.Operand.tmp 36) (Go.Operand.const (Go.Value.int Go.IntKind.i64 0)) 3, type := _, pos := _, after := _, guard := some (3, true) }) (v := ?_) rfl (by kernel_rfl) (by kernel_rfl) (by kernel_rfl) (fun _ _ _ h => h) (Or.inl ⟨by rfl, ?_⟩) ?_
  rotate_left
  · intro w; go_simp; first | done | with_reducible rfl
  try simp only [Act.put, List.setIfInBounds_toArray, List.set_cons_zero, List.set_cons_succ]
  refine wpAny_take (i := 7) (oi := { dst := some 38, op := Go.Op.pick (Go.Operand.tmp 34) (Go.Operand.tmp 37) (Go.Operand.const (Go.Value.bool false)), type := _, pos := _, after := _, guard := none }) (v := ?_) rfl (by kernel_rfl) (by kernel_rfl) (by kernel_rfl) (fun _ _ _ h => h) (Or.inl ⟨by rfl, ?_⟩) ?_
  rotate_left
  · intro w; go_simp; first | done | with_reducible rfl
  try simp only [Act.put, List.setIfInBounds_toArray, List.set_cons_zero, List.set_cons_succ]
  refine wpAny_take (i := 8) (oi := { dst := some 39, op := Go.Op.move (Go.Operand.tmp 38), type := _, pos := _, after := _, guard := none }) (v := ?_) rfl (by kernel_rfl) (by kernel_rfl) (by kernel_rfl) (fun _ _ _ h => h) (Or.inl ⟨by rfl, ?_⟩) ?_
  rotate_left
  · intro w; go_simp; first | done | with_reducible rfl
  try simp only [Act.put, List.setIfInBounds_toArray, List.set_cons_zero, List.set_cons_succ]
  refine wpAny_take (i := 9) (oi := { dst := some 40, op := Go.Op.move (Go.Operand.tmp 5), type := _, pos := _, after := _, guard := some (8, true) }) (v := ?_) rfl (by kernel_rfl) (by kernel_rfl) (by kernel_rfl) (fun _ _ _ h => h) (Or.inl ⟨by rfl, ?_⟩) ?_
  rotate_left
  · intro w; go_simp; first | done | with_reducible rfl
  try simp only [Act.put, List.setIfInBounds_toArray, List.set_cons_zero, List.set_cons_succ]
  refine wpAny_take (i := 10) (oi := { dst := some 41, op := Go.Op.makeInterface 45 (Go.Operand.tmp 10), type := _, pos := _, after := _, guard := some (8, true) }) (v := ?_) rfl (by kernel_rfl) (by kernel_rfl) (by kernel_rfl) (fun _ _ _ h => h) (Or.inl ⟨by rfl, ?_⟩) ?_
  rotate_left
  · intro w; go_simp; first | done | with_reducible rfl
  try simp only [Act.put, List.setIfInBounds_toArray, List.set_cons_zero, List.set_cons_succ]
  refine wpAny_ready (rs := [11]) (by kernel_rfl) (by simp) ?_
  refine AllReady.cons rfl (fun K hK => ?_) AllReady.nil
  go_simp
  go_at_call 16
  refine (as_calls ⟨f, 0, none⟩ ⟨w2.heap.size + 1, 0, none⟩ (.pointer none) _ HGD.out.1 HGD.out.2.2.1.2.2.2 HGD.out.2.2.2).mono ?_
  rintro e w5 ⟨rfl, w6, rfl, hb6⟩
  obtain ⟨hS, hH, zB⟩ := su_after HF2.out HH2.out HGD.out.2.1 HGD.out.2.2.1.1 HGD.out.2.2.1.2.1 HGD.out.2.2.1.2.2.1 HGD.out.2.2.1.2.2.2 hb6
  have ZB := Aside0.mk (below_step (w := w) HB2.out zB)
  have ZH := Aside0.mk hH
  clear hb6 zB hH
  generalize w6.setCell ⟨w2.heap.size + 1, 0, none⟩ (.pointer (some ⟨f, 0, none⟩)) = w5 at *
  refine hK _ _ ?_
  clear hK K
  refine wpAny_of_held (S := SU f h w2.heap.size (n : Int) c name k) _ _ _ _ ?_
  try simp only [Act.put, List.setIfInBounds_toArray, List.set_cons_zero, List.set_cons_succ]
  refine wpAnyH_take (i := 12) (oi := { dst := some 43, op := Go.Op.pick (Go.Operand.tmp 39) (Go.Operand.tmp 42) (Go.Operand.const (Go.Value.bool false)), type := _, pos := _, after := _, guard := none }) (v := ?_) rfl (by kernel_rfl) (by kernel_rfl) (by kernel_rfl) (fun _ _ _ h => h) (Or.inl ⟨by rfl, ?_⟩) hS ?_
  rotate_left
  · intro w hSw; obtain ⟨q0, q1, q2, q3, q4, q5, q6, q7⟩ := hSw; go_simp; first | done | with_reducible rfl
  try simp only [Act.put, List.setIfInBounds_toArray, List.set_cons_zero, List.set_cons_succ]
  refine wpAnyH_take (i := 13) (oi := { dst := some 44, op := Go.Op.move (Go.Operand.tmp 43), type := _, pos := _, after := _, guard := none }) (v := ?_) rfl (by kernel_rfl) (by kernel_rfl) (by kernel_rfl) (fun _ _ _ h => h) (Or.inl ⟨by rfl, ?_⟩) hS ?_
  rotate_left
  · intro w hSw; obtain ⟨q0, q1, q2, q3, q4, q5, q6, q7⟩ := hSw; go_simp; first | done | with_reducible rfl
  try simp only [Act.put, List.setIfInBounds_toArray, List.set_cons_zero, List.set_cons_succ]
  refine wpAnyH_take (i := 14) (oi := { dst := some 45, op := Go.Op.load 43 (Go.Operand.tmp 10), type := _, pos := _, after := _, guard := some (13, true) }) (v := ?_) rfl (by kernel_rfl) (by kernel_rfl) (by kernel_rfl) (fun _ _ _ h => h) (Or.inl ⟨by rfl, ?_⟩) hS ?_
  rotate_left
  · intro w hSw; obtain ⟨q0, q1, q2, q3, q4, q5, q6, q7⟩ := hSw; go_simp; first | done | with_reducible rfl
  try simp only [Act.put, List.setIfInBounds_toArray, List.set_cons_zero, List.set_cons_succ]
  refine wpAnyH_take (i := 15) (oi := { dst := some 46, op := Go.Op.nilCheck (Go.Operand.tmp 45), type := _, pos := _, after := _, guard := some (13, true) }) (v := ?_) rfl (by kernel_rfl) (by kernel_rfl) (by kernel_rfl) (fun _ _ _ h => h) (Or.inl ⟨by rfl, ?_⟩) hS ?_
  rotate_left
  · intro w hSw; obtain ⟨q0, q1, q2, q3, q4, q5, q6, q7⟩ := hSw; go_simp; first | done | with_reducible rfl
  try simp only [Act.put, List.setIfInBounds_toArray, List.set_cons_zero, List.set_cons_succ]
  refine wpAnyH_take (i := 16) (oi := { dst := some 47, op := Go.Op.fieldAddr 48 (Go.Operand.tmp 46) 0, type := _, pos := _, after := _, guard := some (13, true) }) (v := ?_) rfl (by kernel_rfl) (by kernel_rfl) (by kernel_rfl) (fun _ _ _ h => h) (Or.inl ⟨by rfl, ?_⟩) hS ?_
  rotate_left
  · intro w hSw; obtain ⟨q0, q1, q2, q3, q4, q5, q6, q7⟩ := hSw; go_simp; first | done | with_reducible rfl
  try simp only [Act.put, List.setIfInBounds_toArray, List.set_cons_zero, List.set_cons_succ]
  refine wpAnyH_take (i := 17) (oi := { dst := some 48, op := Go.Op.load 46 (Go.Operand.tmp 47), type := _, pos := _, after := _, guard := some (13, true) }) (v := ?_) rfl (by kernel_rfl) (by kernel_rfl) (by kernel_rfl) (fun _ _ _ h => h) (Or.inl ⟨by rfl, ?_⟩) hS ?_
  rotate_left
  · intro w hSw; obtain ⟨q0, q1, q2, q3, q4, q5, q6, q7⟩ := hSw; go_simp; first | done | with_reducible rfl
  try simp only [Act.put, List.setIfInBounds_toArray, List.set_cons_zero, List.set_cons_succ]
  refine wpAnyH_take (i := 18) (oi := { dst := some 49, op := Go.Op.binOp Go.BinOp.eql 46 (Go.Operand.tmp 48) (Go.Operand.const (Go.Value.int Go.IntKind.i64 303)) 46, type := _, pos := _, after := _, guard := some (13, true) }) (v := ?_) rfl (by kernel_rfl) (by kernel_rfl) (by kernel_rfl) (fun _ _ _ h => h) (Or.inl ⟨by rfl, ?_⟩) hS ?_
  rotate_left
  · intro w hSw; obtain ⟨q0, q1, q2, q3, q4, q5, q6, q7⟩ := hSw; go_simp; first | done | with_reducible rfl
  try simp only [Act.put, List.setIfInBounds_toArray, List.set_cons_zero, List.set_cons_succ]
  refine wpAnyH_take (i := 19) (oi := { dst := some 50, op := Go.Op.pick (Go.Operand.tmp 44) (Go.Operand.tmp 49) (Go.Operand.const (Go.Value.bool false)), type := _, pos := _, after := _, guard := none }) (v := ?_) rfl (by kernel_rfl) (by kernel_rfl) (by kernel_rfl) (fun _ _ _ h => h) (Or.inl ⟨by rfl, ?_⟩) hS ?_
  rotate_left
  · intro w hSw; obtain ⟨q0, q1, q2, q3, q4, q5, q6, q7⟩ := hSw; go_simp; first | done | with_reducible rfl
  try simp only [Act.put, List.setIfInBounds_toArray, List.set_cons_zero, List.set_cons_succ]
  refine wpAnyH_take (i := 20) (oi := { dst := some 51, op := Go.Op.move (Go.Operand.tmp 50), type := _, pos := _, after := _, guard := none }) (v := ?_) rfl (by kernel_rfl) (by kernel_rfl) (by kernel_rfl) (fun _ _ _ h => h) (Or.inl ⟨by rfl, ?_⟩) hS ?_
  rotate_left
  · intro w hSw; obtain ⟨q0, q1, q2, q3, q4, q5, q6, q7⟩ := hSw; go_simp; first | done | with_reducible rfl
  try simp only [Act.put, List.setIfInBounds_toArray, List.set_cons_zero, List.set_cons_succ]
  refine wpAnyH_take (i := 21) (oi := { dst := some 52, op := Go.Op.load 43 (Go.Operand.tmp 10), type := _, pos := _, after := _, guard := some (20, true) }) (v := ?_) rfl (by kernel_rfl) (by kernel_rfl) (by kernel_rfl) (fun _ _ _ h => h) (Or.inl ⟨by rfl, ?_⟩) hS ?_
  rotate_left
  · intro w hSw; obtain ⟨q0, q1, q2, q3, q4, q5, q6, q7⟩ := hSw; go_simp; first | done | with_reducible rfl
  try simp only [Act.put, List.setIfInBounds_toArray, List.set_cons_zero, List.set_cons_succ]
  refine wpAnyH_take (i := 22) (oi := { dst := some 53, op := Go.Op.nilCheck (Go.Operand.tmp 52), type := _, pos := _, after := _, guard := some (20, true) }) (v := ?_) rfl (by kernel_rfl) (by kernel_rfl) (by kernel_rfl) (fun _ _ _ h => h) (Or.inl ⟨by rfl, ?_⟩) hS ?_
  rotate_left
  · intro w hSw; obtain ⟨q0, q1, q2, q3, q4, q5, q6, q7⟩ := hSw; go_simp; first | done | with_reducible rfl
  try simp only [Act.put, List.setIfInBounds_toArray, List.set_cons_zero, List.set_cons_succ]
  refine wpAnyH_take (i := 23) (oi := { dst := some 54, op := Go.Op.fieldAddr 48 (Go.Operand.tmp 53) 1, type := _, pos := _, after := _, guard := some (20, true) }) (v := ?_) rfl (by kernel_rfl) (by kernel_rfl) (by kernel_rfl) (fun _ _ _ h => h) (Or.inl ⟨by rfl, ?_⟩) hS ?_
  rotate_left
  · intro w hSw; obtain ⟨q0, q1, q2, q3, q4, q5, q6, q7⟩ := hSw; go_simp; first | done | with_reducible rfl
  try simp only [Act.put, List.setIfInBounds_toArray, List.set_cons_zero, List.set_cons_succ]
  refine wpAnyH_take (i := 24) (oi := { dst := some 55, op := Go.Op.load 9 (Go.Operand.tmp 54), type := _, pos := _, after := _, guard := some (20, true) }) (v := ?_) rfl (by kernel_rfl) (by kernel_rfl) (by kernel_rfl) (fun _ _ _ h => h) (Or.inl ⟨by rfl, ?_⟩) hS ?_
  rotate_left
  · intro w hSw; obtain ⟨q0, q1, q2, q3, q4, q5, q6, q7⟩ := hSw; go_simp; first | done | with_reducible rfl
  try simp only [Act.put, List.setIfInBounds_toArray, List.set_cons_zero, List.set_cons_succ]
  refine wpAnyH_take (i := 25) (oi := { dst := some 56, op := Go.Op.binOp Go.BinOp.eql 9 (Go.Operand.tmp 55) (Go.Operand.const (Go.Value.string { data := #[] })) 9, type := _, pos := _, after := _, guard := some (20, true) }) (v := ?_) rfl (by kernel_rfl) (by kernel_rfl) (by kernel_rfl) (fun _ _ _ h => h) (Or.inl ⟨by rfl, ?_⟩) hS ?_
  rotate_left
  · intro w hSw; obtain ⟨q0, q1, q2, q3, q4, q5, q6, q7⟩ := hSw; go_simp; first | done | with_reducible rfl
  try simp only [Act.put, List.setIfInBounds_toArray, List.set_cons_zero, List.set_cons_succ]
  refine wpAnyH_take (i := 26) (oi := { dst := some 57, op := Go.Op.pick (Go.Operand.tmp 51) (Go.Operand.tmp 56) (Go.Operand.const (Go.Value.bool false)), type := _, pos := _, after := _, guard := none }) (v := ?_) rfl (by kernel_rfl) (by kernel_rfl) (by kernel_rfl) (fun _ _ _ h => h) (Or.inl ⟨by rfl, ?_⟩) hS ?_
  rotate_left
  · intro w hSw; obtain ⟨q0, q1, q2, q3, q4, q5, q6, q7⟩ := hSw; go_simp; first | done | with_reducible rfl
  try simp only [Act.put, List.setIfInBounds_toArray, List.set_cons_zero, List.set_cons_succ]
  refine wpAnyH_take (i := 27) (oi := { dst := some 58, op := Go.Op.move (Go.Operand.tmp 57), type := _, pos := _, after := _, guard := none }) (v := ?_) rfl (by kernel_rfl) (by kernel_rfl) (by kernel_rfl) (fun _ _ _ h => h) (Or.inl ⟨by rfl, ?_⟩) hS ?_
  rotate_left
  · intro w hSw; obtain ⟨q0, q1, q2, q3, q4, q5, q6, q7⟩ := hSw; go_simp; first | done | with_reducible rfl
  try simp only [Act.put, List.setIfInBounds_toArray, List.set_cons_zero, List.set_cons_succ]
  refine wpAnyH_take (i := 28) (oi := { dst := some 59, op := Go.Op.load 43 (Go.Operand.tmp 10), type := _, pos := _, after := _, guard := some (27, true) }) (v := ?_) rfl (by kernel_rfl) (by kernel_rfl) (by kernel_rfl) (fun _ _ _ h => h) (Or.inl ⟨by rfl, ?_⟩) hS ?_
  rotate_left
  · intro w hSw; obtain ⟨q0, q1, q2, q3, q4, q5, q6, q7⟩ := hSw; go_simp; first | done | with_reducible rfl
  try simp only [Act.put, List.setIfInBounds_toArray, List.set_cons_zero, List.set_cons_succ]
  refine wpAnyH_take (i := 29) (oi := { dst := some 60, op := Go.Op.nilCheck (Go.Operand.tmp 59), type := _, pos := _, after := _, guard := some (27, true) }) (v := ?_) rfl (by kernel_rfl) (by kernel_rfl) (by kernel_rfl) (fun _ _ _ h => h) (Or.inl ⟨by rfl, ?_⟩) hS ?_
  rotate_left
  · intro w hSw; obtain ⟨q0, q1, q2, q3, q4, q5, q6, q7⟩ := hSw; go_simp; first | done | with_reducible rfl
  try simp only [Act.put, List.setIfInBounds_toArray, List.set_cons_zero, List.set_cons_succ]
  refine wpAnyH_take (i := 30) (oi := { dst := some 61, op := Go.Op.fieldAddr 48 (Go.Operand.tmp 60) 2, type := _, pos := _, after := _, guard := some (27, true) }) (v := ?_) rfl (by kernel_rfl) (by kernel_rfl) (by kernel_rfl) (fun _ _ _ h => h) (Or.inl ⟨by rfl, ?_⟩) hS ?_
  rotate_left
  · intro w hSw; obtain ⟨q0, q1, q2, q3, q4, q5, q6, q7⟩ := hSw; go_simp; first | done | with_reducible rfl
  try simp only [Act.put, List.setIfInBounds_toArray, List.set_cons_zero, List.set_cons_succ]
  refine wpAnyH_take (i := 31) (oi := { dst := some 62, op := Go.Op.load 3 (Go.Operand.tmp 61), type := _, pos := _, after := _, guard := some (27, true) }) (v := ?_) rfl (by kernel_rfl) (by kernel_rfl) (by kernel_rfl) (fun _ _ _ h => h) (Or.inl ⟨by rfl, ?_⟩) hS ?_
  rotate_left
  · intro w hSw; obtain ⟨q0, q1, q2, q3, q4, q5, q6, q7⟩ := hSw; go_simp; first | done | with_reducible rfl
  try simp only [Act.put, List.setIfInBounds_toArray, List.set_cons_zero, List.set_cons_succ]
  refine wpAnyH_take (i := 32) (oi := { dst := some 63, op := Go.Op.move (Go.Operand.tmp 9), type := _, pos := _, after := _, guard := some (27, true) }) (v := ?_) rfl (by kernel_rfl) (by kernel_rfl) (by kernel_rfl) (fun _ _ _ h => h) (Or.inl ⟨by rfl, ?_⟩) hS ?_
  rotate_left
  · intro w hSw; obtain ⟨q0, q1, q2, q3, q4, q5, q6, q7⟩ := hSw; go_simp; first | done | with_reducible rfl
  try simp only [Act.put, List.setIfInBounds_toArray, List.set_cons_zero, List.set_cons_succ]
  refine wpAnyH_take (i := 33) (oi := { dst := some 64, op := Go.Op.binOp Go.BinOp.eql 3 (Go.Operand.tmp 62) (Go.Operand.tmp 63) 3, type := _, pos := _, after := _, guard := some (27, true) }) (v := ?_) rfl (by kernel_rfl) (by kernel_rfl) (by kernel_rfl) (fun _ _ _ h => h) (Or.inl ⟨by rfl, ?_⟩) hS ?_
  rotate_left
  · intro w hSw; obtain ⟨q0, q1, q2, q3, q4, q5, q6, q7⟩ := hSw; go_simp; first | done | with_reducible rfl
  try simp only [Act.put, List.setIfInBounds_toArray, List.set_cons_zero, List.set_cons_succ]
  refine wpAnyH_take (i := 34) (oi := { dst := some 65, op := Go.Op.pick (Go.Operand.tmp 58) (Go.Operand.tmp 64) (Go.Operand.const (Go.Value.bool false)), type := _, pos := _, after := _, guard := none }) (v := ?_) rfl (by kernel_rfl) (by kernel_rfl) (by kernel_rfl) (fun _ _ _ h => h) (Or.inl ⟨by rfl, ?_⟩) hS ?_
  rotate_left
  · intro w hSw; obtain ⟨q0, q1, q2, q3, q4, q5, q6, q7⟩ := hSw; go_simp; first | done | with_reducible rfl
  try simp only [Act.put, List.setIfInBounds_toArray, List.set_cons_zero, List.set_cons_succ]
  refine wpAnyH_take (i := 35) (oi := { dst := some 66, op := Go.Op.move (Go.Operand.tmp 65), type := _, pos := _, after := _, guard := none }) (v := ?_) rfl (by kernel_rfl) (by kernel_rfl) (by kernel_rfl) (fun _ _ _ h => h) (Or.inl ⟨by rfl, ?_⟩) hS ?_
  rotate_left
  · intro w hSw; obtain ⟨q0, q1, q2, q3, q4, q5, q6, q7⟩ := hSw; go_simp; first | done | with_reducible rfl
  try simp only [Act.put, List.setIfInBounds_toArray, List.set_cons_zero, List.set_cons_succ]
  refine wpAnyH_take (i := 36) (oi := { dst := some 67, op := Go.Op.load 43 (Go.Operand.tmp 10), type := _, pos := _, after := _, guard := some (35, true) }) (v := ?_) rfl (by kernel_rfl) (by kernel_rfl) (by kernel_rfl) (fun _ _ _ h => h) (Or.inl ⟨by rfl, ?_⟩) hS ?_
  rotate_left
  · intro w hSw; obtain ⟨q0, q1, q2, q3, q4, q5, q6, q7⟩ := hSw; go_simp; first | done | with_reducible rfl
  try simp only [Act.put, List.setIfInBounds_toArray, List.set_cons_zero, List.set_cons_succ]
  refine wpAnyH_take (i := 37) (oi := { dst := some 68, op := Go.Op.nilCheck (Go.Operand.tmp 67), type := _, pos := _, after := _, guard := some (35, true) }) (v := ?_) rfl (by kernel_rfl) (by kernel_rfl) (by kernel_rfl) (fun _ _ _ h => h) (Or.inl ⟨by rfl, ?_⟩) hS ?_
  rotate_left
  · intro w hSw; obtain ⟨q0, q1, q2, q3, q4, q5, q6, q7⟩ := hSw; go_simp; first | done | with_reducible rfl
  try simp only [Act.put, List.setIfInBounds_toArray, List.set_cons_zero, List.set_cons_succ]
  refine wpAnyH_take (i := 38) (oi := { dst := some 69, op := Go.Op.fieldAddr 48 (Go.Operand.tmp 68) 3, type := _, pos := _, after := _, guard := some (35, true) }) (v := ?_) rfl (by kernel_rfl) (by kernel_rfl) (by kernel_rfl) (fun _ _ _ h => h) (Or.inl ⟨by rfl, ?_⟩) hS ?_
  rotate_left
  · intro w hSw; obtain ⟨q0, q1, q2, q3, q4, q5, q6, q7⟩ := hSw; go_simp; first | done | with_reducible rfl
  try simp only [Act.put, List.setIfInBounds_toArray, List.set_cons_zero, List.set_cons_succ]
  refine wpAnyH_take (i := 39) (oi := { dst := some 70, op := Go.Op.load 27 (Go.Operand.tmp 69), type := _, pos := _, after := _, guard := some (35, true) }) (v := ?_) rfl (by kernel_rfl) (by kernel_rfl) (by kernel_rfl) (fun _ _ _ h => h) (Or.inl ⟨by rfl, ?_⟩) hS ?_
  rotate_left
  · intro w hSw; obtain ⟨q0, q1, q2, q3, q4, q5, q6, q7⟩ := hSw; go_simp; first | done | with_reducible rfl
  try simp only [Act.put, List.setIfInBounds_toArray, List.set_cons_zero, List.set_cons_succ]
  refine wpAnyH_take (i := 40) (oi := { dst := some 71, op := Go.Op.load 31 (Go.Operand.tmp 8), type := _, pos := _, after := _, guard := some (35, true) }) (v := ?_) rfl (by kernel_rfl) (by kernel_rfl) (by kernel_rfl) (fun _ _ _ h => h) (Or.inl ⟨by rfl, ?_⟩) hS ?_
  rotate_left
  · intro w hSw; obtain ⟨q0, q1, q2, q3, q4, q5, q6, q7⟩ := hSw; go_simp; first | done | with_reducible rfl
  try simp only [Act.put, List.setIfInBounds_toArray, List.set_cons_zero, List.set_cons_succ]
  refine wpAnyH_ready (rs := [41]) (by kernel_rfl) (by simp) ?_
  refine AllReadyH.cons (o := { dst := some 72, op := Go.Op.call { callee := Go.Callee.value (Go.Operand.func 12), args := #[Go.Operand.tmp 70, Go.Operand.tmp 71], argTypes := #[27, 31] }, type := _, pos := _, after := _, guard := some (35, true) }) rfl (fun K hK => ?_) AllReadyH.nil
  go_simp
  go_at_call 12
  refine (is_ok (.iface 43 (.pointer (some ⟨h, 0, none⟩))) (c, name, k) _ (.inr ⟨hc0, h, rfl, World.block_lt_of_cell? _ _ ZH.out.1, ZH.out⟩) (HG.out.below ZB.out).2.2.2).mono ?_
  rintro e v1 ⟨rfl, hb7⟩
  refine hK.out _ _ (hS.below hb7) (fun _ => ?_)
  have hS7 := hS.below hb7
  have ZB1 := Aside0.mk (below_step (w := w) ZB.out hb7)
  have ZH1 := Aside0.mk (ZH.out.below hb7)
  clear hK K hS hb7
  have hS := hS7
  try simp only [Act.put, List.setIfInBounds_toArray, List.set_cons_zero, List.set_cons_succ]
  refine wpAnyH_take (i := 42) (oi := { dst := some 73, op := Go.Op.pick (Go.Operand.tmp 66) (Go.Operand.tmp 72) (Go.Operand.const (Go.Value.bool false)), type := _, pos := _, after := _, guard := none }) (v := ?_) rfl (by kernel_rfl) (by kernel_rfl) (by kernel_rfl) (fun _ _ _ h => h) (Or.inl ⟨by rfl, ?_⟩) hS ?_
  rotate_left
  · intro w hSw; obtain ⟨q0, q1, q2, q3, q4, q5, q6, q7⟩ := hSw; go_simp; first | done | with_reducible rfl
  try simp only [Act.put, List.setIfInBounds_toArray, List.set_cons_zero, List.set_cons_succ]
  refine wpAnyH_take (i := 43) (oi := { dst := some 74, op := Go.Op.move (Go.Operand.tmp 73), type := _, pos := _, after := _, guard := none }) (v := ?_) rfl (by kernel_rfl) (by kernel_rfl) (by kernel_rfl) (fun _ _ _ h => h) (Or.inl ⟨by rfl, ?_⟩) hS ?_
  rotate_left
  · intro w hSw; obtain ⟨q0, q1, q2, q3, q4, q5, q6, q7⟩ := hSw; go_simp; first | done | with_reducible rfl
  try simp only [Act.put, List.setIfInBounds_toArray, List.set_cons_zero, List.set_cons_succ]
  refine wpAnyH_take (i := 44) (oi := { dst := some 75, op := Go.Op.move (Go.Operand.tmp 5), type := _, pos := _, after := _, guard := some (43, true) }) (v := ?_) rfl (by kernel_rfl) (by kernel_rfl) (by kernel_rfl) (fun _ _ _ h => h) (Or.inl ⟨by rfl, ?_⟩) hS ?_
  rotate_left
  · intro w hSw; obtain ⟨q0, q1, q2, q3, q4, q5, q6, q7⟩ := hSw; go_simp; first | done | with_reducible rfl
  try simp only [Act.put, List.setIfInBounds_toArray, List.set_cons_zero, List.set_cons_succ]
  refine wpAnyH_take (i := 45) (oi := { dst := some 76, op := Go.Op.makeInterface 46 (Go.Operand.const (Go.Value.int Go.IntKind.i64 303)), type := _, pos := _, after := _, guard := some (43, true) }) (v := ?_) rfl (by kernel_rfl) (by kernel_rfl) (by kernel_rfl) (fun _ _ _ h => h) (Or.inl ⟨by rfl, ?_⟩) hS ?_
  rotate_left
  · intro w hSw; obtain ⟨q0, q1, q2, q3, q4, q5, q6, q7⟩ := hSw; go_simp; first | done | with_reducible rfl
  try simp only [Act.put, List.setIfInBounds_toArray, List.set_cons_zero, List.set_cons_succ]
  refine wpAnyH_ready (rs := [46]) (by kernel_rfl) (by simp) ?_
  refine AllReadyH.cons (o := { dst := some 77, op := Go.Op.call { callee := Go.Callee.value (Go.Operand.func 17), args := #[Go.Operand.tmp 75, Go.Operand.tmp 76], argTypes := #[27, 27] }, type := _, pos := _, after := _, guard := some (43, true) }) rfl (fun K hK => ?_) AllReadyH.nil
  go_simp
  go_at_call 17
  refine (isU_calls f h 303 c name k _ hS.1 hS.2.2.2.1 ZH1.out 303 (.inl rfl)).mono ?_
  rintro e v2 ⟨rfl, hb7⟩
  refine hK.out _ _ (hS.below hb7) (fun _ => ?_)
  have hS7 := hS.below hb7
  have ZB2 := Aside0.mk (below_step (w := w) ZB1.out hb7)
  have ZH2 := Aside0.mk (ZH1.out.below hb7)
  clear hK K hS hb7
  have hS := hS7
  try simp only [Act.put, List.setIfInBounds_toArray, List.set_cons_zero, List.set_cons_succ]
  refine wpAnyH_take (i := 47) (oi := { dst := some 78, op := Go.Op.pick (Go.Operand.tmp 74) (Go.Operand.tmp 77) (Go.Operand.const (Go.Value.bool false)), type := _, pos := _, after := _, guard := none }) (v := ?_) rfl (by kernel_rfl) (by kernel_rfl) (by kernel_rfl) (fun _ _ _ h => h) (Or.inl ⟨by rfl, ?_⟩) hS ?_
  rotate_left
  · intro w hSw; obtain ⟨q0, q1, q2, q3, q4, q5, q6, q7⟩ := hSw; go_simp; first | done | with_reducible rfl
  try simp only [Act.put, List.setIfInBounds_toArray, List.set_cons_zero, List.set_cons_succ]
  refine wpAnyH_take (i := 48) (oi := { dst := some 79, op := Go.Op.move (Go.Operand.tmp 78), type := _, pos := _, after := _, guard := none }) (v := ?_) rfl (by kernel_rfl) (by kernel_rfl) (by kernel_rfl) (fun _ _ _ h => h) (Or.inl ⟨by rfl, ?_⟩) hS ?_
  rotate_left
  · intro w hSw; obtain ⟨q0, q1, q2, q3, q4, q5, q6, q7⟩ := hSw; go_simp; first | done | with_reducible rfl
  try simp only [Act.put, List.setIfInBounds_toArray, List.set_cons_zero, List.set_cons_succ]
  refine wpAnyH_take (i := 49) (oi := { dst := some 80, op := Go.Op.move (Go.Operand.tmp 5), type := _, pos := _, after := _, guard := some (48, true) }) (v := ?_) rfl (by kernel_rfl) (by kernel_rfl) (by kernel_rfl) (fun _ _ _ h => h) (Or.inl ⟨by rfl, ?_⟩) hS ?_
  rotate_left
  · intro w hSw; obtain ⟨q0, q1, q2, q3, q4, q5, q6, q7⟩ := hSw; go_simp; first | done | with_reducible rfl
  try simp only [Act.put, List.setIfInBounds_toArray, List.set_cons_zero, List.set_cons_succ]
  refine wpAnyH_take (i := 50) (oi := { dst := some 81, op := Go.Op.fieldAddr 31 (Go.Operand.tmp 8) 0, type := _, pos := _, after := _, guard := some (48, true) }) (v := ?_) rfl (by kernel_rfl) (by kernel_rfl) (by kernel_rfl) (fun _ _ _ h => h) (Or.inl ⟨by rfl, ?_⟩) hS ?_
  rotate_left
  · intro w hSw; obtain ⟨q0, q1, q2, q3, q4, q5, q6, q7⟩ := hSw; go_simp; first | done | with_reducible rfl
  try simp only [Act.put, List.setIfInBounds_toArray, List.set_cons_zero, List.set_cons_succ]
  refine wpAnyH_take (i := 51) (oi := { dst := some 82, op := Go.Op.load 3 (Go.Operand.tmp 81), type := _, pos := _, after := _, guard := some (48, true) }) (v := ?_) rfl (by kernel_rfl) (by kernel_rfl) (by kernel_rfl) (fun _ _ _ h => h) (Or.inl ⟨by rfl, ?_⟩) hS ?_
  rotate_left
  · intro w hSw; obtain ⟨q0, q1, q2, q3, q4, q5, q6, q7⟩ := hSw; go_simp; first | done | with_reducible rfl
  try simp only [Act.put, List.setIfInBounds_toArray, List.set_cons_zero, List.set_cons_succ]
  refine wpAnyH_take (i := 52) (oi := { dst := some 83, op := Go.Op.makeInterface 46 (Go.Operand.tmp 82), type := _, pos := _, after := _, guard := some (48, true) }) (v := ?_) rfl (by kernel_rfl) (by kernel_rfl) (by kernel_rfl) (fun _ _ _ h => h) (Or.inl ⟨by rfl, ?_⟩) hS ?_
  rotate_left
  · intro w hSw; obtain ⟨q0, q1, q2, q3, q4, q5, q6, q7⟩ := hSw; go_simp; first | done | with_reducible rfl
  try simp only [Act.put, List.setIfInBounds_toArray, List.set_cons_zero, List.set_cons_succ]
  refine wpAnyH_ready (rs := [53]) (by kernel_rfl) (by simp) ?_
  refine AllReadyH.cons (o := { dst := some 84, op := Go.Op.call { callee := Go.Callee.value (Go.Operand.func 17), args := #[Go.Operand.tmp 80, Go.Operand.tmp 83], argTypes := #[27, 27] }, type := _, pos := _, after := _, guard := some (48, true) }) rfl (fun K hK => ?_) AllReadyH.nil
  go_simp
  go_at_call 17
  refine (isU_calls f h 303 c name k _ hS.1 hS.2.2.2.1 ZH2.out c (.inr rfl)).mono ?_
  rintro e v3 ⟨rfl, hb7⟩
  refine hK.out _ _ (hS.below hb7) (fun _ => ?_)
  have hS7 := hS.below hb7
  have ZB3 := Aside0.mk (below_step (w := w) ZB2.out hb7)
  have ZH3 := Aside0.mk (ZH2.out.below hb7)
  clear hK K hS hb7
  have hS := hS7
  try simp only [Act.put, List.setIfInBounds_toArray, List.set_cons_zero, List.set_cons_succ]
  refine wpAnyH_take (i := 54) (oi := { dst := some 85, op := Go.Op.pick (Go.Operand.tmp 79) (Go.Operand.tmp 84) (Go.Operand.const (Go.Value.bool false)), type := _, pos := _, after := _, guard := none }) (v := ?_) rfl (by kernel_rfl) (by kernel_rfl) (by kernel_rfl) (fun _ _ _ h => h) (Or.inl ⟨by rfl, ?_⟩) hS ?_
  rotate_left
  · intro w hSw; obtain ⟨q0, q1, q2, q3, q4, q5, q6, q7⟩ := hSw; go_simp; first | done | with_reducible rfl
  try simp only [Act.put, List.setIfInBounds_toArray, List.set_cons_zero, List.set_cons_succ]
  refine wpAnyH_take (i := 55) (oi := { dst := some 86, op := Go.Op.move (Go.Operand.tmp 85), type := _, pos := _, after := _, guard := none }) (v := ?_) rfl (by kernel_rfl) (by kernel_rfl) (by kernel_rfl) (fun _ _ _ h => h) (Or.inl ⟨by rfl, ?_⟩) hS ?_
  rotate_left
  · intro w hSw; obtain ⟨q0, q1, q2, q3, q4, q5, q6, q7⟩ := hSw; go_simp; first | done | with_reducible rfl
  try simp only [Act.put, List.setIfInBounds_toArray, List.set_cons_zero, List.set_cons_succ]
  refine wpAnyH_ready (rs := [56]) (by kernel_rfl) (by simp) ?_
  refine AllReadyH.cons (o := { dst := some 87, op := Go.Op.call { callee := Go.Callee.value (Go.Operand.func 9), args := #[], argTypes := #[] }, type := _, pos := _, after := _, guard := some (55, true) }) rfl (fun K hK => ?_) AllReadyH.nil
  go_simp
  go_at_call 9
  refine (lives_calls _ (HG.out.below ZB3.out)).mono ?_
  rintro e v4 ⟨rfl, hb7⟩
  refine hK.out _ _ (hS.below hb7) (fun _ => ?_)
  have hS7 := hS.below hb7
  have ZB4 := Aside0.mk (below_step (w := w) ZB3.out hb7)
  have ZH4 := Aside0.mk (ZH3.out.below hb7)
  clear hK K hS hb7
  have hS := hS7
  try simp only [Act.put, List.setIfInBounds_toArray, List.set_cons_zero, List.set_cons_succ]
  refine wpAnyH_take (i := 57) (oi := { dst := some 88, op := Go.Op.pick (Go.Operand.tmp 86) (Go.Operand.tmp 87) (Go.Operand.const (Go.Value.bool false)), type := _, pos := _, after := _, guard := none }) (v := ?_) rfl (by kernel_rfl) (by kernel_rfl) (by kernel_rfl) (fun _ _ _ h => h) (Or.inl ⟨by rfl, ?_⟩) hS ?_
  rotate_left
  · intro w hSw; obtain ⟨q0, q1, q2, q3, q4, q5, q6, q7⟩ := hSw; go_simp; first | done | with_reducible rfl
  try simp only [Act.put, List.setIfInBounds_toArray, List.set_cons_zero, List.set_cons_succ]
  refine wpAnyH_take (i := 58) (oi := { dst := some 2, op := Go.Op.assign (Go.Operand.tmp 88), type := _, pos := _, after := _, guard := none }) (v := ?_) rfl (by kernel_rfl) (by kernel_rfl) (by kernel_rfl) (fun _ _ _ h => h) (Or.inl ⟨by rfl, ?_⟩) hS ?_
  rotate_left
  · intro w hSw; obtain ⟨q0, q1, q2, q3, q4, q5, q6, q7⟩ := hSw; go_simp; first | done | with_reducible rfl
  try simp only [Act.put, List.setIfInBounds_toArray, List.set_cons_zero, List.set_cons_succ]
  refine wpAnyH_done (by kernel_rfl) ?_ _
  go_wp2_with (fail)
  go_ret
  exact ⟨rfl, ZB4.out⟩
theorem allF_len : ∀ (l : List BL) (k : Nat) {L : List (Cl × Nat)}, allF k l = .inr L → L.length ≤ l.length
  | [], k, L, h => by injection h with h; subst h; exact Nat.le_refl _
  | p :: r, k, L, h => by
    rw [List.length_cons]
    cases ho : overF p
    · by_cases hr : (readF (mkB p)).2.1 = 0
      · rw [allF_ok k r ho hr] at h
        cases hq : allF (k + 1) r with
        | inl y => rw [hq] at h; cases h
        | inr y =>
          rw [hq] at h
          injection h with h
          have := allF_len r (k + 1) hq
          rw [← h, List.length_append, List.length_singleton]
          omega
      · rw [allF_bad k r ho hr] at h; cases h
    · rw [allF_over k r ho] at h
      have := allF_len r (k + 1) h
      omega
theorem sameF_refl (c : Cl) : sameF c c = true := by unfold sameF; rw [decide_eq_true rfl, decide_eq_true rfl]; rfl
theorem ai_form {B : Nat} {w : World} {v u : Value} {C : List LC} {L : List Nat} (h : AI B w v u C L) : ∃ a c a' c', v = .slice a C.length c ∧ u = .slice a' L.length c' ∧ (∀ i x, C[i]? = some x → ∃ g, a = some ⟨g, 0, none⟩ ∧ w.cell? ⟨g, i * 2, none⟩ = some (.string x.1.1) ∧ w.cell? ⟨g, i * 2 + 1, none⟩ = some (.slice x.2.1 x.1.2.length x.2.2)) ∧ (∀ (i n : Nat), L[i]? = some n → ∃ g, a' = some ⟨g, 0, none⟩ ∧ w.cell? ⟨g, i, none⟩ = some (.int .i64 (n : Int))) := by
  obtain ⟨h1, h2, _, _⟩ := h
  have k1 := fun g hg => h1.cells (g := g) hg
  have k2 := fun g hg => h2.cells (g := g) hg
  have ha : ∀ (g i : Nat), (⟨g, 0, none⟩ : Addr).add i = ⟨g, i, none⟩ := fun g i => by simp [Addr.add]; omega
  have e1 : ∃ a c, v = .slice a C.length c ∧ (0 < C.length → ∃ g, a = some ⟨g, 0, none⟩) := by
    rcases h1.2 with ⟨rfl, h0⟩ | ⟨g, cap, cur, rfl, _⟩
    · exact ⟨_, _, by rw [h0], fun q => by omega⟩
    · exact ⟨_, _, rfl, fun _ => ⟨g, rfl⟩⟩
  have e2 : ∃ a c, u = .slice a L.length c ∧ (0 < L.length → ∃ g, a = some ⟨g, 0, none⟩) := by
    rcases h2.2 with ⟨rfl, h0⟩ | ⟨g, cap, cur, rfl, _⟩
    · exact ⟨_, _, by rw [h0], fun q => by omega⟩
    · exact ⟨_, _, rfl, fun _ => ⟨g, rfl⟩⟩
  obtain ⟨a, c, rfl, ea⟩ := e1
  obtain ⟨a', c', rfl, ea'⟩ := e2
  refine ⟨a, c, a', c', rfl, rfl, fun i x hx => ?_, fun i n hn => ?_⟩
  · have hi := (List.getElem?_eq_some_iff.1 hx).1
    obtain ⟨g, rfl⟩ := ea (by omega)
    obtain ⟨q1, q2⟩ := encC_at hx
    have r1 := k1 g rfl _ _ q1
    have r2 := k1 g rfl _ _ q2
    rw [ha] at r1 r2
    exact ⟨g, rfl, r1, r2⟩
  · have hi := (List.getElem?_eq_some_iff.1 hn).1
    obtain ⟨g, rfl⟩ := ea' (by omega)
    have r1 := k2 g rfl i (encN n) (by rw [List.getElem?_map, hn]; rfl)
    rw [ha] at r1
    exact ⟨g, rfl, r1⟩
/-- The cells that a round's test reads. -/
def ZA (W : World) (p q r t i : Nat) (x1 x2 y1 y2 m n : Value) : Prop := W.cell? ⟨p, i * 2, none⟩ = some x1 ∧ W.cell? ⟨p, i * 2 + 1, none⟩ = some x2 ∧ W.cell? ⟨q, i * 2, none⟩ = some y1 ∧ W.cell? ⟨q, i * 2 + 1, none⟩ = some y2 ∧ W.cell? ⟨r, i, none⟩ = some m ∧ W.cell? ⟨t, i, none⟩ = some n
theorem ZA.b {W W' : World} {p q r t i : Nat} {x1 x2 y1 y2 m n : Value} (h : ZA W p q r t i x1 x2 y1 y2 m n) (hb : Below W.heap.size W W') : ZA W' p q r t i x1 x2 y1 y2 m n :=
  ⟨pw_cell_below hb h.1, pw_cell_below hb h.2.1, pw_cell_below hb h.2.2.1, pw_cell_below hb h.2.2.2.1, pw_cell_below hb h.2.2.2.2.1, pw_cell_below hb h.2.2.2.2.2⟩
theorem below_k {w W : World} (h : Below w.heap.size w W) (k : Nat) : Below w.heap.size w (W.drewN k) := below_step (w := w) h (pw_below_drewN (Below.refl _ _) k)
set_option maxHeartbeats 32000000 in
set_option maxRecDepth 100000 in
theorem law_good (s : ByteArray) (w : World) (L : List (Cl × Nat)) (hs : s.size ≤ 20000) (hA : allF 0 (linesF (tl s)) = .inr L) (hG : GW w) : Calls Tryz.prog 4 #[.string s] w fun e w' => e = .returned (.bool true) ∧ Below w.heap.size w w' := by
  have hs' : ¬ (20000 : Int) < (s.size : Int) := by omega
  have HG := Aside0.mk hG
  have HAC := Aside0.mk (all_calls s w hs hG.1 hG.2.1 hG.2.2.1)
  have HRC : Aside0 (∀ W, _) := ⟨fun W => rall_calls s W hs⟩
  have HNL : Aside0 (L.length ≤ 20001) := ⟨by have h1 := allF_len _ _ hA; have h2 := linesF_len (tl s); rw [show (tl s).length = s.size from Array.length_toList] at h2; omega⟩
  rw [hA] at HAC HRC
  have n0 : ∀ (w : World), (binOp .neq 27 .nilIface .nilIface).run Tryz.prog w = .ok (.bool false) w := fun w => by kernel_rfl
  clear hA hG hs
  go_enter Tryz.func4, Tryz.ntmps4
  go_wp2_with (fail)
  refine HAC.out.mono ?_
  rintro e w1 ⟨hb1, vl, vn, C, rfl, hI1, hC1⟩
  have HB1 := Aside0.mk hb1
  have HI1 := Aside0.mk hI1
  obtain ⟨a1, c1, a2, c2, rfl, rfl, hX1, hY1⟩ := ai_form hI1
  have HX1 := Aside0.mk hX1
  have HY1 := Aside0.mk hY1
  clear hb1 hI1 hX1 hY1
  go_wp2_with (fail)
  refine (HRC.out _).mono ?_
  rintro e w2 ⟨hb2, ul, un, D, rfl, hI2, hD2⟩
  have HB2 := Aside0.mk (below_step (w := w) HB1.out hb2)
  have HB12 := Aside0.mk hb2
  have HI2 := Aside0.mk hI2
  obtain ⟨a3, c3, a4, c4, rfl, rfl, hX2, hY2⟩ := ai_form hI2
  have HX2 := Aside0.mk hX2
  have HY2 := Aside0.mk hY2
  clear hb2 hI2 hX2 hY2
  have hlC : C.length = L.length := by have := congrArg List.length hC1; rw [List.length_map, List.length_map] at this; exact this
  have hlD : D.length = L.length := by have := congrArg List.length hD2; rw [List.length_map, List.length_map] at this; exact this
  have hlL : (L.map (·.2)).length = L.length := List.length_map ..
  rw [hlC, hlD, hlL]
  obtain ⟨N, hN⟩ : ∃ N, L.length = N := ⟨_, rfl⟩
  have HEL : Aside0 (∀ i < N, ∃ x y z, C[i]? = some x ∧ D[i]? = some y ∧ L[i]? = some z ∧ x.1 = z.1 ∧ y.1 = z.1) := ⟨fun i hi => by
    have e1 : (C.map (·.1))[i]? = (L.map (·.1))[i]? := by rw [hC1]
    have e2 : (D.map (·.1))[i]? = (L.map (·.1))[i]? := by rw [hD2]
    rw [List.getElem?_map, List.getElem?_map, List.getElem?_eq_getElem (by omega), List.getElem?_eq_getElem (by omega)] at e1
    rw [List.getElem?_map, List.getElem?_map, List.getElem?_eq_getElem (by omega), List.getElem?_eq_getElem (by omega)] at e2
    injection e1 with e1
    injection e2 with e2
    exact ⟨_, _, _, List.getElem?_eq_getElem (by omega), List.getElem?_eq_getElem (by omega), List.getElem?_eq_getElem (by omega), e1, e2⟩⟩
  have hNs : N ≤ 30000 := by
    rw [← hN]
    have h1 := HNL.out
    omega
  rw [hN]
  clear hC1 hD2 hlC hlD hlL hN
  unfold bV okB
  go_wp2_with (fail)
  go_loopw [11] (fun v11 wr => ∃ i : Nat, i ≤ N ∧ v11 = .int .i64 i ∧ Aside0 (Below w2.heap.size w2 wr)) (fun v11 _ => N - (intOf v11).toNat)
  case atStart => exact ⟨0, Nat.zero_le _, rfl, ⟨(Below.refl _ _).alloc (Nat.le_refl _) _⟩⟩
  case round =>
    obtain ⟨i, hi, rfl, HX⟩ := hrel
    have HB := Aside0.mk (below_step (w := w) HB2.out HX.out)
    by_cases h1 : i < N
    · have h1' : (i : Int) < (N : Int) := by omega
      have h0' : (0 : Int) ≤ (i : Int) := by omega
      obtain ⟨x, y, z, ex, ey, ez, exz, eyz⟩ := HEL.out i h1
      obtain ⟨p, rfl, p1, p2⟩ := HX1.out i x ex
      obtain ⟨q, rfl, q1, q2⟩ := HX2.out i y ey
      obtain ⟨r, rfl, r1⟩ := HY1.out i z.2 (by rw [List.getElem?_map, ez]; rfl)
      obtain ⟨t, rfl, t1⟩ := HY2.out i z.2 (by rw [List.getElem?_map, ez]; rfl)
      have za0 : ZA wr p q r t i (.string x.1.1) (.slice x.2.1 x.1.2.length x.2.2) (.string y.1.1) (.slice y.2.1 y.1.2.length y.2.2) (.int .i64 (z.2 : Int)) (.int .i64 (z.2 : Int)) := ⟨pw_cell_below HX.out (pw_cell_below HB12.out p1), pw_cell_below HX.out (pw_cell_below HB12.out p2), pw_cell_below HX.out q1, pw_cell_below HX.out q2, pw_cell_below HX.out (pw_cell_below HB12.out r1), pw_cell_below HX.out t1⟩
      have HSM : Aside0 (∀ W, Below wr.heap.size wr W → Calls Tryz.prog 13 #[.agg #[.string x.1.1, .slice x.2.1 x.1.2.length x.2.2], .agg #[.string y.1.1, .slice y.2.1 y.1.2.length y.2.2]] W fun e w' => e = .returned (.bool true) ∧ Below W.heap.size W w') := ⟨fun W hb => by
        have := same_calls x.1.1 y.1.1 x.1.2 y.1.2 x.2.1 y.2.1 x.1.2.length y.1.2.length x.2.2 y.2.2 W (((HI1.out.2.2.2 x (List.mem_of_getElem? ex)).1.below (below_step HB12.out HX.out)).below hb) (((HI2.out.2.2.2 y (List.mem_of_getElem? ey)).1.below HX.out).below hb)
        rw [show sameF (x.1.1, x.1.2) (y.1.1, y.1.2) = true by show sameF x.1 y.1 = true; rw [exz, eyz]; exact sameF_refl _] at this
        exact this⟩
      clear p1 p2 q1 q2 r1 t1 ex ey ez exz eyz
      have za : ∀ k, ZA (wr.drewN k) p q r t i (.string x.1.1) (.slice x.2.1 x.1.2.length x.2.2) (.string y.1.1) (.slice y.2.1 y.1.2.length y.2.2) (.int .i64 (z.2 : Int)) (.int .i64 (z.2 : Int)) := fun _ => za0
      have HWa : Aside0 (∀ k, Below wr.heap.size wr (wr.drewN k)) := ⟨fun k => pw_below_drewN (Below.refl _ _) k⟩
      have HWd : Aside0 (Below wr.heap.size wr wr.drew) := ⟨below_drew1 (Below.refl _ _)⟩
      go_wp2_with (fail)
      go_region_held3 (fun w' => w'.cell? ⟨p, i * 2, none⟩ = some (.string x.1.1) ∧ w'.cell? ⟨p, i * 2 + 1, none⟩ = some (.slice x.2.1 x.1.2.length x.2.2) ∧ w'.cell? ⟨q, i * 2, none⟩ = some (.string y.1.1) ∧ w'.cell? ⟨q, i * 2 + 1, none⟩ = some (.slice y.2.1 y.1.2.length y.2.2) ∧ w'.cell? ⟨r, i, none⟩ = some (.int .i64 (z.2 : Int)) ∧ w'.cell? ⟨t, i, none⟩ = some (.int .i64 (z.2 : Int)))
        (first | exact za0 | exact za 1 | exact za _ | exact zi | go_keep)
        (first
          | (go_at_call 13; ((with_reducible refine (HSM.out _ (by first | exact HWd.out | exact HWa.out _ | exact Below.refl _ _)).mono ?_)); rintro e wi ⟨rfl, hb⟩; have HBi := Aside0.mk (below_step (w := wr) (by first | exact HWd.out | exact HWa.out _ | exact Below.refl _ _) hb); have zi : ZA wi p q r t i (.string x.1.1) (.slice x.2.1 x.1.2.length x.2.2) (.string y.1.1) (.slice y.2.1 y.1.2.length y.2.2) (.int .i64 (z.2 : Int)) (.int .i64 (z.2 : Int)) := (ZA.b (by first | exact za 1 | exact za0 | exact za _) hb); clear hb))
      all_goals
        go_wp2_with (fail)
        exact ⟨⟨i + 1, by omega, by simp, ⟨below_step HX.out HBi.out⟩⟩, by simp [intOf]; omega⟩
    · have h1' : ¬ (i : Int) < (N : Int) := by omega
      go_wp2_with (fail)
      refine (lives_calls _ (HG.out.below HB.out)).mono ?_
      rintro e wl ⟨rfl, hbl⟩
      have HBL := Aside0.mk (below_step (w := w) HB.out hbl)
      clear hbl
      go_wp2_with (fail)
      go_ret
      exact ⟨rfl, HBL.out⟩
theorem law_walk (s : ByteArray) (w : World) (hs : s.size ≤ 140737488351232) (hG : GW w) : Calls Tryz.prog 4 #[.string s] w fun e w' => e = .returned (.bool true) ∧ Below w.heap.size w w' := by
  by_cases h : s.size ≤ 20000
  · cases hA : allF 0 (linesF (tl s)) with
    | inl y => obtain ⟨n, b⟩ := y; exact law_bad s w n b h hA hG
    | inr L => exact law_good s w L h hA hG
  · have h' : (20000 : Int) < (s.size : Int) := by omega
    have HL := Aside0.mk (lives_calls w hG)
    clear hG h hs
    go_enter Tryz.func4, Tryz.ntmps4
    go_wp2_with (fail)
    refine HL.out.mono ?_
    rintro e w1 ⟨rfl, hb⟩
    go_wp2_with (fail)
    go_ret
    exact ⟨rfl, hb⟩
end Go.Proofs.YtopcidphlleciaaGreatDoor.S

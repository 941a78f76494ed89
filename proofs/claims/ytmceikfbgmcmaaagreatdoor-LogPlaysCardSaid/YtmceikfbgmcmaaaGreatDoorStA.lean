/- The law's stands: no logs. -/
import Derived.Test.YtmceikfbgmcmaaaGreatDoorRgB
import Derived.Test.YtmceikfbgmcmaaaGreatDoorAlC
import Derived.Test.YtmceikfbgmcmaaaGreatDoorAlA
import Derived.Test.YtmceikfbgmcmaaaGreatDoorQuR
import Derived.Sort.QuietIn
namespace Go.Proofs.YtmceikfbgmcmaaaGreatDoor.D
open Go.RowKit Go.Extern.Stop Go.Stop Go.Extern Go.Proofs.YtmceikfbgmcmaaaGreatDoorW.PrintWords Go.Proofs.YtmceikfbgmcmaaaGreatDoorW.PrintLast Go.Proofs.YtmceikfbgmcmaaaGreatDoorW.PrintMore
set_option linter.unusedVariables false
set_option linter.unusedSimpArgs false
attribute [local go_sem] Oper.semAt_some
theorem eqR (v : Addr) (w : World) : (binOp .eql 48 (.pointer (some v)) (.pointer none)).run Tryz.prog w = .ok (.bool false) w := by kernel_rfl
theorem eqRN (w : World) : (binOp .eql 48 (.pointer none) (.pointer none)).run Tryz.prog w = .ok (.bool true) w := by kernel_rfl
theorem stands_res {tmps : Array Value} {w : World} (g : Nat) (b : Bool) (hp : tmps.getD 4 undef = .pointer (some ⟨g, 0, none⟩)) (hc : w.cell? ⟨g, 0, none⟩ = some (.bool b)) : (results Tryz.f30 tmps).run Tryz.prog w = .ok (.bool b) w := by
  have ha : ∀ w, (isAgg 4).run Tryz.prog w = .ok false w := fun w => by kernel_rfl
  unfold results
  rw [show Tryz.f30.results = [ResultVar.cell 4 4].toArray from Tryz.results30, List.mapM_toArray]
  simp only [Sem.run_bind, Sem.run_map, List.mapM_cons, List.mapM_nil, hp]
  simp [asAddr, loadVar, ha, hc, go_sem]
set_option maxHeartbeats 16000000 in
set_option maxRecDepth 100000 in
theorem stands_nil (w : World) : Calls Tryz.prog 30 #[.pointer none, .pointer none] w fun e w' => e = .returned (.bool true) ∧ Below w.heap.size w w' := by
  have e0 := eqRN
  have e1 := eqN
  go_enter Tryz.func30, Tryz.ntmps30
  go_wp2_with (fail)
  exact bodyPost_ret (stands_res (w.heap.size + 1) true rfl (by go_simp)) rfl ⟨rfl, ((Below.refl _ w).alloc (Nat.le_refl _) _).alloc (by simp) _⟩
theorem LG.ck {w w' : World} {B q p nb : Nat} {lv : Value} {recs : List BL} {br : Bool} (h : LG w B q p lv recs br) (hk : CK nb w w') (h1 : q ≠ nb) (h2 : lv.ownBlock ≠ some nb) : LG w' B q p lv recs br := by
  obtain ⟨a1, ⟨a2, a3⟩, a4⟩ := h
  refine ⟨hk _ _ a1 rfl h1, ⟨a2, ?_⟩, a4⟩
  rcases a3 with a3 | ⟨g, cap, cur, rfl, c1, c2, c3⟩
  · exact .inl a3
  · exact .inr ⟨g, cap, cur, rfl, c1, hk _ _ c2 rfl (fun e => h2 (by rw [e]; rfl)), c3⟩
theorem RG.ck {w w' : World} {B q p nb : Nat} {lv : Value} {recs : List BL} {br : Bool} (h : RG w B q p lv recs br) (hk : CK nb w w') (h1 : q ≠ nb) (h2 : lv.ownBlock ≠ some nb) : RG w' B q p lv recs br := by
  obtain ⟨a1, ⟨a2, a3⟩, a4⟩ := h
  refine ⟨hk _ _ a1 rfl h1, ⟨a2, ?_⟩, a4⟩
  rcases a3 with a3 | ⟨g, cap, cur, rfl, c1, c2, c3⟩
  · exact .inl a3
  · exact .inr ⟨g, cap, cur, rfl, c1, hk _ _ c2 rfl (fun e => h2 (by rw [e]; rfl)), c3⟩
theorem own_lt {w : World} {B n g : Nat} {v : Value} {xs : List Value} (h : w.ownsRow B 9 1 v n xs) (hg : v.ownBlock = some g) : g < w.heap.size := by
  rcases h.2 with ⟨rfl, h0⟩ | ⟨g', cap, cur, rfl, hb, c2, _⟩
  · simp [Value.ownBlock] at hg
  · have e' : g' = g := by simpa [Value.ownBlock] using hg
    rw [← e']
    exact (Array.getElem?_eq_some_iff.1 c2).1
/-- What stands between two rounds of the range over a log. -/
def SI (w w4 : World) (nB : Nat) (pre : List (Nat × BL)) (W : World) : Prop := W.heap[nB]? = some (.cells #[.int .i64 (pre.length : Int)] 3 (0, 0)) ∧ CK nB w4 W ∧ Below w.heap.size w W
theorem si_own {w w4 : World} {nB : Nat} (h4 : w.heap.size ≤ w4.heap.size) : OwnFrom w4.heap.size (SI w w4 nB) := fun pre W W' row hs hg hr => by
  have hc : ∀ (k : Nat) (o : Obj), W.heap[k]? = some o → o.isCells = true → W'.heap[k]? = some o := fun k o hk ho => by
    refine (hg.block k (Array.getElem?_eq_some_iff.1 hk).1 (fun e => ?_)).trans hk
    obtain ⟨_, o', h1, h2⟩ := hr k e.symm
    rw [hk] at h1
    injection h1 with h1
    rw [h1, h2] at ho
    cases ho
  refine ⟨hc _ _ hs.1 rfl, fun k o hk ho hn => hc k o (hs.2.1 k o hk ho hn) ho, hs.2.2.grown hg hs.2.2.size (fun k e => Nat.le_trans h4 (hr k e).1)⟩
theorem push_mid (h : Array Obj) (a b c : Obj) : (((h.push a).push b).push c)[h.size + 1]? = some b := by
  rw [Array.getElem?_push_lt (by simp), ← Array.getElem?_eq_getElem]
  have e : h.size + 1 = (h.push a).size := by simp
  rw [e]
  exact Array.getElem?_push_size
theorem sx_str {pre : List (Nat × BL)} {recs : List BL} {xi : Nat} {xy y : BL} (hl : pre.length = xi) (hy : recs[xi]? = some y) (h : xy ≠ y) : pre ++ [(xi, xy)] ≠ iu recs (pre ++ [(xi, xy)]).length := by
  intro e
  rw [List.length_append, hl, List.length_singleton, iu_succ] at e
  have := (List.append_inj' e rfl).2
  injection this with h1 _
  injection h1 with _ h2
  rw [hy] at h2
  exact h h2
theorem sx_idx {pre : List (Nat × BL)} {recs : List BL} {xi m : Nat} {xy : BL} (hl : pre.length = m) (h : xi ≠ m) : pre ++ [(xi, xy)] ≠ iu recs (pre ++ [(xi, xy)]).length := by
  intro e
  rw [List.length_append, hl, List.length_singleton, iu_succ] at e
  have := (List.append_inj' e rfl).2
  injection this with h1 _
  injection h1 with h2 _
  exact h h2
theorem mkB_beq {x y : BL} (h : x ≠ y) : ((mkB x).toList == (mkB y).toList) = false := by
  rw [beq_eq_false_iff_ne, ByteArray.toList_eq, ByteArray.toList_eq]
  intro e
  exact h (by rw [← tl_mkB x, ← tl_mkB y]; exact e)
theorem ko_drew (W : World) (n : Nat) : KeepsOthers W (W.drewN n) := ⟨Nat.le_refl _, fun _ _ h _ => h⟩
/-- What At answers. -/
def AtP (recs : List BL) (i : Int) (s : ByteArray) (v : Value) (W : World) : Prop := (((i = -1) ∨ i = (recs.length : Int)) ∧ s = ⟨#[]⟩ ∧ ∃ g, v = .iface 98 (.pointer (some ⟨g, 0, none⟩)) ∧ FP W g 2 i) ∨ (∃ (k : Nat) (x : BL), i = (k : Int) ∧ recs[k]? = some x ∧ s = mkB x ∧ v = .nilIface)
theorem atAny_calls {B q p : Nat} {lv : Value} {recs : List BL} {br : Bool} (i : Int) (w : World) (h : LG w B q p lv recs br) (h1 : -1 ≤ i) (h2 : i ≤ (recs.length : Int)) : Calls Tryz.prog 8 #[.pointer (some ⟨q, 0, none⟩), .int .i64 i] w fun e w' => ∃ s v, e = .returned (.tuple #[.string s, v]) ∧ AtP recs i s v w' ∧ Below w.heap.size w w' := by
  by_cases hin : 0 ≤ i ∧ i < (recs.length : Int)
  · obtain ⟨k, hk⟩ : ∃ k : Nat, i = (k : Int) := ⟨i.toNat, by omega⟩
    subst hk
    have hx : recs[k]? = some (recs[k]'(by omega)) := List.getElem?_eq_getElem _
    refine (at_calls k _ w h hx).mono ?_
    rintro e w' ⟨rfl, rfl⟩
    exact ⟨_, _, rfl, .inr ⟨k, _, rfl, hx, rfl, rfl⟩, Below.refl _ _⟩
  · refine (atOut_calls i w h (by omega)).mono ?_
    rintro e w' ⟨rfl, hF, hb, _⟩
    exact ⟨_, _, rfl, .inl ⟨by omega, rfl, _, rfl, hF⟩, hb⟩
/-- b.L[k:] -/
theorem slice_from (a : Option Addr) (n c k : Nat) (ha : (a = none ∧ c = 0) ∨ ∃ g, a = some ⟨g, 0, none⟩) (h1 : n ≤ c) (hk : k ≤ n) : ∃ A, (∀ W, (Instr.slice 36 (.slice a n c) (some (.int .i64 (k : Int))) none none).run Tryz.prog W = .ok (.slice A (n - k) (c - k)) W) ∧ (k < n → ∃ g, a = some ⟨g, 0, none⟩ ∧ A = some ⟨g, k, none⟩) := by
  by_cases h : k < n
  · obtain ⟨g, rfl⟩ : ∃ g, a = some ⟨g, 0, none⟩ := by
      rcases ha with ⟨_, h0⟩ | h0
      · omega
      · exact h0
    exact ⟨_, fun W => slice_at g n c k h h1 W, fun _ => ⟨g, rfl, rfl⟩⟩
  · obtain rfl : k = n := by omega
    have hz : ∀ W, (sizeOf 9).run Tryz.prog W = .ok 1 W := fun W => by kernel_rfl
    rcases ha with ⟨rfl, rfl⟩ | ⟨g, rfl⟩
    · obtain rfl : k = 0 := by omega
      refine ⟨none, fun W => ?_, fun q => absurd q (by omega)⟩
      simp [Instr.slice, Instr.sliceBounds, Instr.sliceBound, asIntOf, run_underlying Tryz.underlying36, hz, Result.andThen]
    · by_cases hc : c = k
      · subst hc
        refine ⟨some ⟨g, 0, none⟩, fun W => ?_, fun q => absurd q (by omega)⟩
        simp [Instr.slice, Instr.sliceBounds, Instr.sliceBound, asIntOf, run_underlying Tryz.underlying36, hz, Result.andThen]
      · refine ⟨some (Addr.add ⟨g, 0, none⟩ k), fun W => ?_, fun q => absurd q (by omega)⟩
        have h3 : (k : Int) ≤ (c : Int) := by omega
        have h0 : (0 : Int) ≤ (k : Int) := by omega
        have h6 : ¬ c - k = 0 := by omega
        simp [Instr.slice, Instr.sliceBounds, Instr.sliceBound, asIntOf, run_underlying Tryz.underlying36, hz, h1, h3, h0, hc, h6, Result.andThen]
/-- What is left of a list that is written over from its beginning on. -/
def FJ (B : Nat) (W : World) (a : Option Addr) (j : Nat) (l : List BL) : Prop := ∀ g, a = some ⟨g, 0, none⟩ → B ≤ g ∧ ∃ cur, W.heap[g]? = some (.cells cur 9 (0, 0)) ∧ l.length ≤ cur.size ∧ ∀ (t : Nat) (x : BL), j ≤ t → l[t]? = some x → cur[t]? = some (encS x)
theorem FJ.start {W : World} {B n c : Nat} {a : Option Addr} {l : List BL} (h : FR W B (.slice a n c) l) : FJ B W a 0 l := fun g hg => by
  rcases h with ⟨e, _⟩ | ⟨g', cap, cur, e, h1, h2, h3, h4⟩
  · injection e with e _ _
    rw [hg] at e
    cases e
  · injection e with e _ _
    rw [hg] at e
    injection e with e
    injection e with e
    subst e
    exact ⟨h1, cur, h2, h3, fun t x _ hx => h4 t x hx⟩
theorem FJ.drew {W : World} {B j : Nat} {a : Option Addr} {l : List BL} (h : FJ B W a j l) (n : Nat) : FJ B (W.drewN n) a j l := h
theorem FJ.next {W : World} {B j g : Nat} {l : List BL} (h : FJ B W (some ⟨g, 0, none⟩) j l) (v : Value) : FJ B (W.setCell ⟨g, j, none⟩ v) (some ⟨g, 0, none⟩) (j + 1) l := fun g' hg => by
  injection hg with hg
  injection hg with hg
  subst hg
  obtain ⟨h1, cur, h2, h3, h4⟩ := h g rfl
  refine ⟨h1, _, heap_setCell_same W g j _ _ _ h2, by simpa using h3, fun t x ht hx => ?_⟩
  rw [Array.getElem?_setIfInBounds_ne (by omega)]
  exact h4 t x (by omega) hx
end Go.Proofs.YtmceikfbgmcmaaaGreatDoor.D

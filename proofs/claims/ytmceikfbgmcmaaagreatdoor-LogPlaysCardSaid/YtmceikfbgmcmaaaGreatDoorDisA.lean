/- Files as a rising list: looked up, laid, taken. A map of texts that has the files of a list. The disk in memory: what a call on it leaves; able; New. One raw write. The closure of add: one piece behind a file. The walk of add. The walk of powered. The disk's reading calls; Restart. The walk of Append. The walk of Remove. The walk of alive. -/
import Derived.Deep.QuietTactic
import Derived.Test.YtmceikfbgmcmaaaGreatDoorErrB
import Derived.Maps.StringElems
import Derived.Maps.OwnSet
import Derived.StringKeys
import Derived.Carry
import Derived.WalkSmall
import Derived.Defers
import Derived.Recover
import Derived.Laws.Pointers
namespace Go.Proofs.YtmceikfbgmcmaaaGreatDoor.D
set_option linter.unusedVariables false
section
abbrev BL := List UInt8
abbrev tl (s : ByteArray) : BL := s.data.toList
theorem tl_inj {a b : ByteArray} (h : tl a = tl b) : a = b := ByteArray.ext (Array.toList_inj.1 h)
/-- Files, rising by name. -/
abbrev FS := List (ByteArray × ByteArray)
def lk : FS → ByteArray → Option ByteArray
  | [], _ => none
  | (a, x) :: r, k => if a = k then some x else lk r k
def lay : FS → ByteArray → ByteArray → FS
  | [], k, v => [(k, v)]
  | (a, x) :: r, k, v => if a = k then (k, v) :: r else if tl k < tl a then (k, v) :: (a, x) :: r else (a, x) :: lay r k v
def take : FS → ByteArray → FS
  | [], _ => []
  | (a, x) :: r, k => if a = k then r else (a, x) :: take r k
def lkD (L : FS) (k : ByteArray) : ByteArray := (lk L k).getD ⟨#[]⟩
def Ris (L : FS) : Prop := L.Pairwise (fun p q => tl p.1 < tl q.1)
theorem bl_trans {a b c : BL} (h1 : a < b) (h2 : b < c) : a < c := List.lt_trans h1 h2
theorem bl_irrefl (a : BL) : ¬ a < a := List.lt_irrefl a
theorem bl_total {a b : BL} (h : ¬ a < b) (hne : a ≠ b) : b < a := by
  rcases List.le_iff_lt_or_eq.1 (List.not_lt.1 h) with q | q
  · exact q
  · exact absurd q.symm hne
theorem lk_none_above {L : FS} {k : ByteArray} (h : ∀ p ∈ L, tl k < tl p.1) : lk L k = none := by
  induction L with
  | nil => rfl
  | cons p r ih =>
    obtain ⟨a, x⟩ := p
    have ha := h (a, x) (by simp)
    rw [lk, if_neg (fun e => by subst e; exact bl_irrefl _ ha)]
    exact ih (fun q hq => h q (List.mem_cons_of_mem _ hq))
theorem lk_lay_same : ∀ (L : FS) (k v : ByteArray), lk (lay L k v) k = some v
  | [], k, v => by rw [lay, lk, if_pos rfl]
  | (a, x) :: r, k, v => by
    rw [lay]
    split
    · rw [lk, if_pos rfl]
    · split
      · rw [lk, if_pos rfl]
      · rename_i h _
        rw [lk, if_neg h]
        exact lk_lay_same r k v
theorem lk_lay_other : ∀ (L : FS) (k v j : ByteArray), j ≠ k → lk (lay L k v) j = lk L j
  | [], k, v, j, h => by
    show (if k = j then some v else none) = none
    rw [if_neg (fun e => h e.symm)]
  | (a, x) :: r, k, v, j, h => by
    rw [lay]
    split
    · rename_i e
      subst e
      rw [lk, lk, if_neg (fun e => h e.symm), if_neg (fun e => h e.symm)]
    · split
      · rw [lk, if_neg (fun e => h e.symm)]
      · rw [lk, lk, lk_lay_other r k v j h]
theorem lk_take_other : ∀ (L : FS) (k j : ByteArray), j ≠ k → lk (take L k) j = lk L j
  | [], k, j, h => rfl
  | (a, x) :: r, k, j, h => by
    rw [take]
    split
    · rename_i e
      subst e
      rw [lk, if_neg (fun e => h e.symm)]
    · rw [lk, lk, lk_take_other r k j h]
theorem lk_take_same : ∀ (L : FS) (k : ByteArray), Ris L → lk (take L k) k = none
  | [], k, _ => rfl
  | (a, x) :: r, k, h => by
    have h' := List.pairwise_cons.1 h
    rw [take]
    split
    · rename_i e
      subst e
      exact lk_none_above (fun p hp => h'.1 p hp)
    · rename_i e
      rw [lk, if_neg e]
      exact lk_take_same r k h'.2
theorem mem_lay : ∀ (L : FS) (k v : ByteArray) (p : ByteArray × ByteArray), p ∈ lay L k v → p = (k, v) ∨ p ∈ L
  | [], k, v, p, h => by rw [lay] at h; exact .inl (List.mem_singleton.1 h)
  | (a, x) :: r, k, v, p, h => by
    rw [lay] at h
    split at h
    · rcases List.mem_cons.1 h with h | h
      · exact .inl h
      · exact .inr (List.mem_cons_of_mem _ h)
    · split at h
      · rcases List.mem_cons.1 h with h | h
        · exact .inl h
        · exact .inr h
      · rcases List.mem_cons.1 h with h | h
        · exact .inr (by rw [h]; simp)
        · rcases mem_lay r k v p h with h | h
          · exact .inl h
          · exact .inr (List.mem_cons_of_mem _ h)
theorem mem_take : ∀ (L : FS) (k : ByteArray) (p : ByteArray × ByteArray), p ∈ take L k → p ∈ L
  | [], k, p, h => h
  | (a, x) :: r, k, p, h => by
    rw [take] at h
    split at h
    · exact List.mem_cons_of_mem _ h
    · rcases List.mem_cons.1 h with h | h
      · rw [h]; simp
      · exact List.mem_cons_of_mem _ (mem_take r k p h)
theorem lay_ris : ∀ (L : FS) (k v : ByteArray), Ris L → Ris (lay L k v)
  | [], k, v, _ => by rw [lay]; exact List.pairwise_singleton _ _
  | (a, x) :: r, k, v, h => by
    have h' := List.pairwise_cons.1 h
    rw [lay]
    split
    · rename_i e
      subst e
      exact List.pairwise_cons.2 ⟨h'.1, h'.2⟩
    · rename_i e
      split
      · rename_i hlt
        refine List.pairwise_cons.2 ⟨fun q hq => ?_, h⟩
        rcases List.mem_cons.1 hq with rfl | hq
        · exact hlt
        · exact bl_trans hlt (h'.1 q hq)
      · rename_i hlt
        have hak : tl a < tl k := bl_total hlt (fun q => e (tl_inj q.symm))
        refine List.pairwise_cons.2 ⟨fun q hq => ?_, lay_ris r k v h'.2⟩
        rcases mem_lay r k v q hq with rfl | hq
        · exact hak
        · exact h'.1 q hq
theorem take_ris : ∀ (L : FS) (k : ByteArray), Ris L → Ris (take L k)
  | [], k, h => h
  | (a, x) :: r, k, h => by
    have h' := List.pairwise_cons.1 h
    rw [take]
    split
    · exact h'.2
    · exact List.pairwise_cons.2 ⟨fun q hq => h'.1 q (mem_take r k q hq), take_ris r k h'.2⟩
theorem lay_len : ∀ (L : FS) (k v : ByteArray), Ris L → (lay L k v).length = if (lk L k).isSome then L.length else L.length + 1
  | [], k, v, _ => rfl
  | (a, x) :: r, k, v, h => by
    have h' := List.pairwise_cons.1 h
    rw [lay, lk]
    by_cases e : a = k
    · rw [if_pos e, if_pos e]; rfl
    · rw [if_neg e, if_neg e]
      by_cases hlt : tl k < tl a
      · rw [if_pos hlt, lk_none_above (fun p hp => bl_trans hlt (h'.1 p hp))]
        rfl
      · rw [if_neg hlt, List.length_cons, lay_len r k v h'.2]
        split <;> rfl
theorem take_len : ∀ (L : FS) (k : ByteArray), (take L k).length + (if (lk L k).isSome then 1 else 0) = L.length
  | [], k => rfl
  | (a, x) :: r, k => by
    rw [take, lk]
    by_cases e : a = k
    · rw [if_pos e, if_pos e]; rfl
    · rw [if_neg e, if_neg e, List.length_cons, List.length_cons]
      have := take_len r k
      omega
theorem lay_len_le (L : FS) (k v : ByteArray) (h : Ris L) : (lay L k v).length ≤ L.length + 1 := by
  rw [lay_len L k v h]
  split <;> omega
end
section
open Go.RowKit Go.Extern.Stop Go.Stop Go.Extern Go.Proofs.YtmceikfbgmcmaaaGreatDoorW.PrintWords Go.Proofs.YtmceikfbgmcmaaaGreatDoorW.PrintLast Go.Proofs.YtmceikfbgmcmaaaGreatDoorW.PrintMore
set_option linter.unusedSimpArgs false
open Go.Maps Go.WideElems Go.WideMaps
noncomputable abbrev RE : Value → Option (DataW Unit × List MemPlace) := plainElem (H := Unit) Tryz.prog 9
/-- The datum has what the list has. -/
def Agr (L : FS) (M : DataW Unit) : Prop := ∀ (k : ByteArray) (z : DataW Unit), M.atKey (.string k.data.toList) z = match lk L k with | some v => .lit (.string v.data.toList) | none => z
/-- Block b is a map that has the files L. -/
def MapIs (w : World) (b : Nat) (L : FS) : Prop := ∃ M : DataW Unit, w.ownsMap Tryz.prog 9 RE b L.length M ∧ Agr L M ∧ Maps.size M = L.length
theorem KS : Maps.Keyed Tryz.prog 9 := string_keyed Tryz.underlying9
theorem zero9 (w : World) : (zeroValue 9).run Tryz.prog w = .ok (.string ⟨#[]⟩) w := by kernel_rfl
theorem RE_str {v : Value} {s : ByteArray} {ps : List MemPlace} (h : RE v = some (.lit (.string s.data.toList), ps)) : v = .string s := by
  obtain ⟨s', rfl, hz, _⟩ := plainElem_string_inv Tryz.underlying9 h
  simp only [Prod.mk.injEq, DataW.lit.injEq, Lit.string.injEq] at hz
  rw [tl_inj (a := s') (b := s) hz.1.symm]
theorem agr_lk {L : FS} {M : DataW Unit} (h : Agr L M) (k : ByteArray) : M.atKey (.string k.data.toList) (.lit (.string [])) = .lit (.string (lkD L k).data.toList) := by
  rw [h k]
  unfold lkD
  cases lk L k <;> rfl
theorem agr_has {L : FS} {M : DataW Unit} (h : Agr L M) (k : ByteArray) : Maps.has M (.string k.data.toList) = (lk L k).isSome := by
  have hk := h k
  cases hl : lk L k with
  | none =>
    rw [hl] at hk
    exact Maps.has_false_of_atKey hk
  | some v =>
    rw [hl] at hk
    exact Maps.has_true_of_atKey hk
theorem MapIs.look {w : World} {b : Nat} {L : FS} (h : MapIs w b L) (k : ByteArray) (hk : k.size ≤ maxLen) : (Instr.lookup 82 (.map (some b)) (.string k) false).run Tryz.prog w = .ok (.string (lkD L k)) w := by
  obtain ⟨M, ho, ha, _⟩ := h
  obtain ⟨v, ps, hrun, hv⟩ := ho.lookup KS Tryz.underlying82 (zero9 w) (plainElem_string (H := Unit) Tryz.underlying9 (s := ⟨#[]⟩) (Nat.zero_le _)) (keyOf_string_mk Tryz.underlying9 hk)
  rw [hrun]
  have e := agr_lk ha k
  have hv' : RE v = some (.lit (.string (lkD L k).data.toList), ps) := by rw [← e]; exact hv
  rw [RE_str hv']
theorem MapIs.look_ok {w : World} {b : Nat} {L : FS} (h : MapIs w b L) (k : ByteArray) (hk : k.size ≤ maxLen) : (Instr.lookup 82 (.map (some b)) (.string k) true).run Tryz.prog w = .ok (.tuple #[.string (lkD L k), .bool (lk L k).isSome]) w := by
  obtain ⟨M, ho, ha, _⟩ := h
  obtain ⟨v, ps, hrun, hv⟩ := ho.look_ok KS Tryz.underlying82 (zero9 w) (plainElem_string (H := Unit) Tryz.underlying9 (s := ⟨#[]⟩) (Nat.zero_le _)) (keyOf_string_mk Tryz.underlying9 hk)
  rw [hrun, agr_has ha]
  have e := agr_lk ha k
  have hv' : RE v = some (.lit (.string (lkD L k).data.toList), ps) := by rw [← e]; exact hv
  rw [RE_str hv']
theorem MapIs.len {w : World} {b : Nat} {L : FS} (h : MapIs w b L) (ty : TypeId) : (Builtin.len_ #[82] ty #[.map (some b)]).run Tryz.prog w = .ok (.int .i64 L.length) w := by
  obtain ⟨M, ho, ha, hs⟩ := h
  rw [ho.len Tryz.underlying82 ty, hs]
theorem MapIs.put {w : World} {b : Nat} {L : FS} (h : MapIs w b L) (hr : Ris L) (hl : L.length < maxLen) (k v : ByteArray) (hk : k.size ≤ maxLen) (hv : v.size ≤ maxLen) :
    ∃ w', (Instr.mapUpdate 82 (.map (some b)) (.string k) (.string v)).run Tryz.prog w = .ok () w' ∧ MapIs w' b (lay L k v) ∧ w.mapTurned w' b := by
  obtain ⟨M, ho, ha, hs⟩ := h
  obtain ⟨w', hrun, ho', ht⟩ := ho.store KS Tryz.underlying82 hl (keyOf_string_mk Tryz.underlying9 hk) (plainElem_string (H := Unit) Tryz.underlying9 hv)
  have hsz : Maps.size (M.put (.string k.data.toList) (.lit (.string v.data.toList))) = (lay L k v).length := by
    rw [Maps.size_put (ho.tidy KS), lay_len L k v hr, agr_has ha, hs]
  refine ⟨w', hrun, ⟨_, ?_, ?_, hsz⟩, ht⟩
  · obtain ⟨es, clock, h1, h2, h3, h4⟩ := ho'
    refine ⟨es, clock, h1, h2, ?_, h4⟩
    rw [← hsz, h4]
    simp [Maps.size, length_sorted]
  · intro j z
    by_cases e : j = k
    · subst e
      rw [Maps.atKey_put_same ho.isMap (show WideAt.IsKeyLit (.string j.data.toList) from trivial), lk_lay_same]
    · rw [Maps.atKey_put_other (fun h => e (tl_inj (by injection h))), lk_lay_other L k v j e]
      exact ha j z
theorem MapIs.drop {w : World} {b : Nat} {L : FS} (h : MapIs w b L) (hr : Ris L) (k : ByteArray) (hk : k.size ≤ maxLen) (ty : TypeId) :
    ∃ w', (Builtin.delete_ #[82, 9] ty #[.map (some b), .string k]).run Tryz.prog w = .ok (.tuple #[]) w' ∧ MapIs w' b (take L k) ∧ w.mapTurned w' b := by
  obtain ⟨M, ho, ha, hs⟩ := h
  obtain ⟨w', hrun, ho', ht⟩ := ho.drop KS Tryz.underlying82 (keyOf_string_mk Tryz.underlying9 hk) ty
  have hsz : Maps.size (M.del (.string k.data.toList)) = (take L k).length := by
    have h1 := Maps.size_del (k := .string k.data.toList) (ho.tidy KS)
    have h2 := take_len L k
    rw [agr_has ha, hs] at h1
    omega
  refine ⟨w', hrun, ⟨_, ?_, ?_, hsz⟩, ht⟩
  · obtain ⟨es, clock, h1, h2, h3, h4⟩ := ho'
    refine ⟨es, clock, h1, h2, ?_, h4⟩
    rw [← hsz, h4]
    simp [Maps.size, length_sorted]
  · intro j z
    by_cases e : j = k
    · subst e
      rw [Maps.atKey_del_same, lk_take_same L j hr]
    · rw [Maps.atKey_del_other (fun h => e (tl_inj (by injection h))), lk_take_other L k j e]
      exact ha j z
theorem MapIs.kept {w w' : World} {b : Nat} {L : FS} (h : MapIs w b L) (hb : w'.heap[b]? = w.heap[b]?) : MapIs w' b L := by
  obtain ⟨M, ⟨es, clock, h1, h2, h3, h4⟩, ha, hs⟩ := h
  exact ⟨M, ⟨es, clock, hb.trans h1, h2, h3, h4⟩, ha, hs⟩
theorem MapIs.lt {w : World} {b : Nat} {L : FS} (h : MapIs w b L) : b < w.heap.size := by
  obtain ⟨M, ho, _⟩ := h
  exact ho.lt
theorem mapIs_new (w : World) : MapIs (w.alloc (.map #[] 0)) w.heap.size [] := ⟨.map [], World.ownsMap_made w _ _ _, fun k z => rfl, rfl⟩
end
section
open Go.RowKit Go.Extern.Stop Go.Stop Go.Extern Go.Proofs.YtmceikfbgmcmaaaGreatDoorW.PrintWords Go.Proofs.YtmceikfbgmcmaaaGreatDoorW.PrintLast Go.Proofs.YtmceikfbgmcmaaaGreatDoorW.PrintMore
set_option linter.unusedSimpArgs false
structure St where
  L : FS
  cut : Int
  cnt : Int
  dead : Bool
/-- What files may be. -/
def Okf (L : FS) : Prop := Ris L ∧ L.length ≤ 65536 ∧ ∀ p ∈ L, p.2.size ≤ 16777216
abbrev cellsD (b : Nat) (s : St) : Array Value := #[.map (some b), .int .i64 s.cut, .int .i64 s.cnt, .bool s.dead]
/-- A disk at p, whose files lie in the map b. -/
def DK (w : World) (p b : Nat) (s : St) : Prop := w.heap[p]? = some (.cells (cellsD b s) 84 (0, 0)) ∧ MapIs w b s.L ∧ Okf s.L
/-- What a call on the disk at p leaves as it was. -/
structure Kp (p b : Nat) (w w' : World) : Prop where
  os : w'.os = w.os
  tape : w'.tape = w.tape
  output : w'.output = w.output
  size : w.heap.size ≤ w'.heap.size
  block : ∀ k, k < w.heap.size → k ≠ p → k ≠ b → w'.heap[k]? = w.heap[k]?
theorem Kp.refl (p b : Nat) (w : World) : Kp p b w w := ⟨rfl, rfl, rfl, Nat.le_refl _, fun _ _ _ _ => rfl⟩
theorem Kp.trans {p b : Nat} {u v w : World} (h : Kp p b u v) (k : Kp p b v w) : Kp p b u w :=
  ⟨k.os.trans h.os, k.tape.trans h.tape, k.output.trans h.output, Nat.le_trans h.size k.size, fun i hi h1 h2 => (k.block i (Nat.lt_of_lt_of_le hi h.size) h1 h2).trans (h.block i hi h1 h2)⟩
theorem Kp.of {p b : Nat} {u v : World} (h : Below u.heap.size u v) : Kp p b u v := ⟨h.os, h.tape, h.output, h.size, fun i hi _ _ => h.block i hi⟩
theorem Kp.drew {p b : Nat} {u v : World} (h : Kp p b u v) (n : Nat) : Kp p b u (v.drewN n) := ⟨h.os, h.tape, h.output, h.size, h.block⟩
theorem Kp.below {p b B : Nat} {u v : World} (h : Kp p b u v) (h1 : B ≤ p) (h2 : B ≤ b) (h3 : B ≤ u.heap.size) : Below B u v :=
  ⟨h.os, h.tape, h.output, h.size, fun k hk => h.block k (by omega) (by omega) (by omega)⟩
theorem Kp.set {p b i : Nat} {u v : World} (h : Kp p b u v) (x : Value) : Kp p b u (v.setCell ⟨p, i, none⟩ x) :=
  ⟨h.os, h.tape, h.output, by simpa using h.size, fun k hk h1 h2 => (Below.heap_setCell v ⟨p, i, none⟩ x k h1).trans (h.block k hk h1 h2)⟩
theorem Kp.turned {p b : Nat} {u v v' : World} (h : Kp p b u v) (ht : v.mapTurned v' b) : Kp p b u v' := by
  have hg := ht.grown
  exact ⟨hg.os.trans h.os, hg.tape.trans h.tape, hg.output.trans h.output, Nat.le_trans h.size hg.size, fun k hk h1 h2 => (hg.block k (Nat.lt_of_lt_of_le hk h.size) (fun e => by injection e with e; exact h2 e)).trans (h.block k hk h1 h2)⟩
theorem DK.lt {w : World} {p b : Nat} {s : St} (h : DK w p b s) : p < w.heap.size := (Array.getElem?_eq_some_iff.1 h.1).1
theorem DK.ltb {w : World} {p b : Nat} {s : St} (h : DK w p b s) : b < w.heap.size := h.2.1.lt
theorem DK.ne {w : World} {p b : Nat} {s : St} (h : DK w p b s) : p ≠ b := by
  rintro rfl
  obtain ⟨M, ⟨es, clock, h1, _⟩, _⟩ := h.2.1
  rw [h.1] at h1
  cases h1
theorem DK.c {w : World} {p b : Nat} {s : St} (h : DK w p b s) : w.cell? ⟨p, 0, none⟩ = some (.map (some b)) ∧ w.cell? ⟨p, 1, none⟩ = some (.int .i64 s.cut) ∧ w.cell? ⟨p, 2, none⟩ = some (.int .i64 s.cnt) ∧ w.cell? ⟨p, 3, none⟩ = some (.bool s.dead) ∧ ∀ o, w.frozen? ⟨p, o, none⟩ = false := by
  obtain ⟨h1, _⟩ := h
  simp [World.cell?, World.frozen?, h1]
theorem DK.below {w w1 : World} {p b : Nat} {s : St} (h : DK w p b s) (hb : Below w.heap.size w w1) : DK w1 p b s :=
  ⟨(hb.block p h.lt).trans h.1, h.2.1.kept (hb.block b h.ltb), h.2.2⟩
theorem DK.kept {w w1 : World} {p b p' b' : Nat} {s : St} (h : DK w p b s) (hk : Kp p' b' w w1) (h1 : p ≠ p') (h2 : p ≠ b') (h3 : b ≠ p') (h4 : b ≠ b') : DK w1 p b s :=
  ⟨(hk.block p h.lt h1 h2).trans h.1, h.2.1.kept (hk.block b h.ltb h3 h4), h.2.2⟩
theorem heap_set {w : World} {p i : Nat} {cs : Array Value} {t : TypeId} {fr : Nat × Nat} (h : w.heap[p]? = some (.cells cs t fr)) (v : Value) : (w.setCell ⟨p, i, none⟩ v).heap[p]? = some (.cells (cs.setIfInBounds i v) t fr) := by
  simp [World.setCell, Array.getElem?_modify, h]
theorem DK.setDead {w : World} {p b : Nat} {s : St} (h : DK w p b s) (d : Bool) : DK (w.setCell ⟨p, 3, none⟩ (.bool d)) p b { s with dead := d } :=
  ⟨by rw [heap_set h.1]; rfl, h.2.1.kept (Below.heap_setCell w ⟨p, 3, none⟩ _ b (fun e => h.ne e.symm)), h.2.2⟩
theorem DK.setCnt {w : World} {p b : Nat} {s : St} (h : DK w p b s) (n : Int) : DK (w.setCell ⟨p, 2, none⟩ (.int .i64 n)) p b { s with cnt := n } :=
  ⟨by rw [heap_set h.1]; rfl, h.2.1.kept (Below.heap_setCell w ⟨p, 2, none⟩ _ b (fun e => h.ne e.symm)), h.2.2⟩
theorem DK.setCut {w : World} {p b : Nat} {s : St} (h : DK w p b s) (n : Int) : DK (w.setCell ⟨p, 1, none⟩ (.int .i64 n)) p b { s with cut := n } :=
  ⟨by rw [heap_set h.1]; rfl, h.2.1.kept (Below.heap_setCell w ⟨p, 1, none⟩ _ b (fun e => h.ne e.symm)), h.2.2⟩
theorem DK.drew {w : World} {p b : Nat} {s : St} (h : DK w p b s) (n : Nat) : DK (w.drewN n) p b s := h
theorem DK.turned {w w' : World} {p b : Nat} {s : St} {L : FS} (h : DK w p b s) (ht : w.mapTurned w' b) (hM : MapIs w' b L) (hL : Okf L) : DK w' p b { s with L := L } :=
  ⟨(ht.grown.block p h.lt (fun e => by injection e with e; exact h.ne e)).trans h.1, hM, hL⟩
theorem lk_size {L : FS} (h : ∀ p ∈ L, p.2.size ≤ 16777216) (k : ByteArray) : (lkD L k).size ≤ 16777216 := by
  unfold lkD
  induction L with
  | nil => exact Nat.zero_le _
  | cons p r ih =>
    obtain ⟨a, x⟩ := p
    rw [lk]
    split
    · exact h (a, x) (by simp)
    · exact ih (fun q hq => h q (List.mem_cons_of_mem _ hq))
theorem nil23 (w : World) : (binOp .eql 40 (.pointer none) (.pointer none)).run Tryz.prog w = .ok (.bool true) w := by kernel_rfl
def ableC (s : St) (name : ByteArray) : Nat := if name.size < 1 ∨ 128 < name.size then 2 else if s.dead then 5 else 0
set_option maxHeartbeats 8000000 in
theorem able_nil (name : ByteArray) (w : World) : Calls Tryz.prog 58 #[.pointer none, .string name] w fun e w' => e = .returned (.int .i64 1) ∧ w' = w := by
  have h0 := nil23
  go_enter Tryz.func58, Tryz.ntmps58
  go_wp2
  go_ret
  exact ⟨rfl, rfl⟩
set_option maxHeartbeats 8000000 in
theorem able_calls (p b : Nat) (s : St) (name : ByteArray) (w : World) (h : DK w p b s) : Calls Tryz.prog 58 #[.pointer (some ⟨p, 0, none⟩), .string name] w fun e w' => e = .returned (.int .i64 (ableC s name)) ∧ w' = w := by
  obtain ⟨c0, c1, c2, c3, cf⟩ := h.c
  unfold ableC
  by_cases h1 : name.size < 1
  · rw [if_pos (.inl h1)]
    have h1' : (name.size : Int) < 1 := by omega
    go_enter Tryz.func58, Tryz.ntmps58
    go_wp2
    go_ret
    exact ⟨rfl, rfl⟩
  · have h1' : ¬ (name.size : Int) < 1 := by omega
    by_cases h2 : 128 < name.size
    · rw [if_pos (.inr h2)]
      have h2' : (128 : Int) < (name.size : Int) := by omega
      go_enter Tryz.func58, Tryz.ntmps58
      go_wp2
      go_ret
      exact ⟨rfl, rfl⟩
    · have h2' : ¬ (128 : Int) < (name.size : Int) := by omega
      rw [if_neg (by omega)]
      cases hd : s.dead
      · rw [hd] at c3
        go_enter Tryz.func58, Tryz.ntmps58
        go_wp2
        go_ret
        exact ⟨rfl, rfl⟩
      · rw [hd] at c3
        go_enter Tryz.func58, Tryz.ntmps58
        go_wp2
        go_ret
        exact ⟨rfl, rfl⟩
set_option maxHeartbeats 8000000 in
theorem new_calls (cut : Int) (w : World) : Calls Tryz.prog 16 #[.int .i64 cut] w fun e w' => ∃ p b, e = .returned (.pointer (some ⟨p, 0, none⟩)) ∧ w.heap.size ≤ p ∧ w.heap.size ≤ b ∧ DK w' p b ⟨[], cut, 0, false⟩ ∧ Below w.heap.size w w' := by
  have hmk := fun w : World => run_makeMap (P := Tryz.prog) 82 w
  go_enter Tryz.func16, Tryz.ntmps16
  go_wp2
  go_ret
  refine ⟨w.heap.size + 1, w.heap.size, rfl, by omega, by omega, ⟨?_, ?_, ?_⟩, ((Below.refl _ _).alloc (Nat.le_refl _) _).alloc (by simp) _⟩
  · have e := (MapKept.heap_alloc (w.alloc (.map #[] 0)) (.cells (cellsD w.heap.size ⟨[], cut, 0, false⟩) 84 (0, 0))).1
    rw [show (w.alloc (.map #[] 0)).heap.size = w.heap.size + 1 from by simp] at e
    exact e
  · exact (mapIs_new w).kept (Below.heap_alloc _ _ _ (by simp))
  · exact ⟨List.Pairwise.nil, Nat.zero_le _, fun p hp => by cases hp⟩
end
section
open Go.RowKit Go.Extern.Stop Go.Stop Go.Extern Go.Proofs.YtmceikfbgmcmaaaGreatDoorW.PrintWords Go.Proofs.YtmceikfbgmcmaaaGreatDoorW.PrintLast Go.Proofs.YtmceikfbgmcmaaaGreatDoorW.PrintMore
set_option linter.unusedSimpArgs false
abbrev lostE : PanicEntry := { v := .iface 126 (.agg #[]), recovered := false }
def rawOk (s : St) : Prop := ¬ (0 ≤ s.cut ∧ s.cut ≤ s.cnt)
set_option maxHeartbeats 8000000 in
set_option maxRecDepth 100000 in
theorem raw_no (p b : Nat) (s : St) (f : Value) (w : World) (h : DK w p b s) (h0 : 0 ≤ s.cut) (h1 : s.cut ≤ s.cnt) : Calls Tryz.prog 68 #[.pointer (some ⟨p, 0, none⟩), f] w fun e w' => e = .panicked [lostE] ∧ DK w' p b { s with dead := true } ∧ Kp p b w w' := by
  obtain ⟨c0, c1, c2, c3, cf⟩ := h.c
  have f3 := cf 3
  have HD := Aside0.mk h
  clear h c0
  go_enter Tryz.func68, Tryz.ntmps68
  go_wp2_with (fail)
  go_quiet (fail)
  go_wp2
  exact ⟨rfl, rfl, (HD.out.drew _).setDead true, ((Kp.refl p b w).drew _).set _⟩
set_option maxHeartbeats 8000000 in
set_option maxRecDepth 100000 in
theorem raw_ok (p b : Nat) (s : St) (g : Nat) (lb : Array Value) (R : World → Prop) (w : World) (eg : ∀ args w, (callFunc g args).run Tryz.prog w = .ok (.enter g args) w) (h : DK w p b s) (hr : rawOk s) (hf : ∀ q, Calls Tryz.prog g lb ((w.drewN q).setCell ⟨p, 2, none⟩ (.int .i64 (wrap64 (s.cnt + 1)))) fun e w' => e = .returned (.tuple #[]) ∧ R w') :
    Calls Tryz.prog 68 #[.pointer (some ⟨p, 0, none⟩), .func (.func g) #[] lb] w fun e w' => e = .returned (.tuple #[]) ∧ R w' := by
  obtain ⟨c0, c1, c2, c3, cf⟩ := h.c
  have f2 := cf 2
  have HF := Aside0.mk hf
  clear h hf c0
  unfold rawOk at hr
  by_cases h0 : 0 ≤ s.cut
  · have h1 : ¬ s.cut ≤ s.cnt := fun h => hr ⟨h0, h⟩
    clear hr
    go_enter Tryz.func68, Tryz.ntmps68
    go_wp2_with (fail)
    go_quiet (fail)
    go_wp2_with (fail)
    refine (HF.out _).mono ?_
    rintro e w1 ⟨rfl, hR⟩
    go_wp2_with (fail)
    go_end0
    exact ⟨rfl, hR⟩
  · have hd0 : decide (0 ≤ s.cut) = false := decide_eq_false h0
    clear hr
    go_enter Tryz.func68, Tryz.ntmps68
    go_wp2_with (fail)
    go_quiet (fail)
    go_wp2_with (fail)
    refine (HF.out _).mono ?_
    rintro e w1 ⟨rfl, hR⟩
    go_wp2_with (fail)
    go_end0
    exact ⟨rfl, hR⟩
end
section
open Go.RowKit Go.Extern.Stop Go.Stop Go.Extern Go.Proofs.YtmceikfbgmcmaaaGreatDoorW.PrintWords Go.Proofs.YtmceikfbgmcmaaaGreatDoorW.PrintLast Go.Proofs.YtmceikfbgmcmaaaGreatDoorW.PrintMore
set_option linter.unusedSimpArgs false
set_option maxHeartbeats 16000000 in
set_option maxRecDepth 100000 in
theorem addc_calls (p b : Nat) (s : St) (g3 g4 g5 g7 : Nat) (name bytes : ByteArray) (n : Nat) (w : World) (h : DK w p b s) (c3 : w.cell? ⟨g3, 0, none⟩ = some (.pointer (some ⟨p, 0, none⟩))) (c4 : w.cell? ⟨g4, 0, none⟩ = some (.string name)) (c5 : w.cell? ⟨g5, 0, none⟩ = some (.string bytes)) (c7 : w.cell? ⟨g7, 0, none⟩ = some (.int .i64 n))
    (hn : n ≤ bytes.size) (hname : name.size ≤ 128) (hs : (lkD s.L name).size + n ≤ 16777216) (hl : (lay s.L name (lkD s.L name ++ bytes.extract 0 n)).length ≤ 65536) :
    Calls Tryz.prog 95 #[.pointer (some ⟨g3, 0, none⟩), .pointer (some ⟨g4, 0, none⟩), .pointer (some ⟨g5, 0, none⟩), .pointer (some ⟨g7, 0, none⟩)] w fun e w' => e = .returned (.tuple #[]) ∧ DK w' p b { s with L := lay s.L name (lkD s.L name ++ bytes.extract 0 n) } ∧ ∃ q, (w.drewN q).mapTurned w' b := by
  obtain ⟨e0, e1, e2, e3, ef⟩ := h.c
  have hex : (bytes.extract 0 n).size = n := by rw [ByteArray.size_extract]; omega
  have hsz : (lkD s.L name ++ bytes.extract 0 n).size ≤ 16777216 := by rw [ByteArray.size_append, hex]; omega
  have hok : Okf (lay s.L name (lkD s.L name ++ bytes.extract 0 n)) := ⟨lay_ris _ _ _ h.2.2.1, hl, fun q hq => by
    rcases mem_lay _ _ _ _ hq with rfl | hq
    · exact hsz
    · exact h.2.2.2.2 q hq⟩
  have hmx : (16777216 : Nat) ≤ maxLen := by decide
  have hlen : s.L.length < maxLen := Nat.lt_of_le_of_lt h.2.2.2.1 (by decide)
  have hlook := (h.drew 1).2.1.look name (by unfold maxLen; omega)
  obtain ⟨w2, hst, hM2, ht2⟩ := (h.drew 1).2.1.put h.2.2.1 hlen name (lkD s.L name ++ bytes.extract 0 n) (by unfold maxLen; omega) (by omega)
  have HD := Aside0.mk ((h.drew 1).turned ht2 hM2 hok)
  have HT := Aside0.mk ht2
  have n1 : ¬ 9223372036854775807 < (lkD s.L name).size + (bytes.extract 0 n).size := by rw [hex]; omega
  have n2 : (n : Int) ≤ (bytes.size : Int) := by omega
  have n3 : (0 : Int) ≤ (n : Int) := by omega
  clear h hM2 ht2 hok
  change (Instr.lookup 82 (.map (some b)) (.string name) false).run Tryz.prog w.drew = .ok (.string (lkD s.L name)) w.drew at hlook
  change (Instr.mapUpdate 82 (.map (some b)) (.string name) (.string (lkD s.L name ++ bytes.extract 0 n))).run Tryz.prog w.drew = .ok () w2 at hst
  go_enter Tryz.func95, Tryz.ntmps95
  go_wp2_with (fail)
  go_region
  go_end0
  exact ⟨rfl, HD.out, 1, HT.out⟩
end
section
open Go.RowKit Go.Extern.Stop Go.Stop Go.Extern Go.Proofs.YtmceikfbgmcmaaaGreatDoorW.PrintWords Go.Proofs.YtmceikfbgmcmaaaGreatDoorW.PrintLast Go.Proofs.YtmceikfbgmcmaaaGreatDoorW.PrintMore
set_option linter.unusedSimpArgs false
instance (s : St) : Decidable (rawOk s) := inferInstanceAs (Decidable (¬ _))
def pieceS (s : St) (name x : ByteArray) : St := { s with L := lay s.L name (lkD s.L name ++ x), cnt := wrap64 (s.cnt + 1) }
/-- Bytes behind a file, piece by piece, as long as there is power. -/
def addF (s : St) (name r : ByteArray) : St × Bool :=
  if rawOk s then
    if r.size ≤ 32 then (pieceS s name (r.extract 0 r.size), true)
    else addF (pieceS s name (r.extract 0 32)) name (r.extract 32 r.size)
  else ({ s with dead := true }, false)
termination_by r.size
decreasing_by rw [ByteArray.size_extract]; omega
theorem lk_lay_some (L : FS) (k v : ByteArray) : (lk (lay L k v) k).isSome = true := by rw [lk_lay_same]; rfl
theorem lkD_lay (L : FS) (k v : ByteArray) : lkD (lay L k v) k = v := by unfold lkD; rw [lk_lay_same]; rfl
theorem Kp.cell {p b : Nat} {u v : World} (h : Kp p b u v) {k o : Nat} (hk : k < u.heap.size) (h1 : k ≠ p) (h2 : k ≠ b) : v.cell? ⟨k, o, none⟩ = u.cell? ⟨k, o, none⟩ := World.cell?_of_block (w := u) (a := ⟨k, o, none⟩) (h.block k hk h1 h2)
theorem Kp.frz {p b : Nat} {u v : World} (h : Kp p b u v) {k o : Nat} (hk : k < u.heap.size) (h1 : k ≠ p) (h2 : k ≠ b) : v.frozen? ⟨k, o, none⟩ = u.frozen? ⟨k, o, none⟩ := World.frozen?_of_block (w := u) (a := ⟨k, o, none⟩) (h.block k hk h1 h2)
theorem enters69 : ∀ args w, (callFunc 95 args).run Tryz.prog w = .ok (.enter 95 args) w := enters_of Tryz.func95 (by kernel_rfl) rfl
/-- One piece, written. -/
theorem piece_calls (p b : Nat) (s : St) (g3 g4 g5 g7 : Nat) (name bytes : ByteArray) (n : Nat) (w : World) (h : DK w p b s) (hr : rawOk s) (hg : (g3 ≠ p ∧ g4 ≠ p) ∧ (g5 ≠ p ∧ g7 ≠ p)) (c3 : w.cell? ⟨g3, 0, none⟩ = some (.pointer (some ⟨p, 0, none⟩))) (c4 : w.cell? ⟨g4, 0, none⟩ = some (.string name)) (c5 : w.cell? ⟨g5, 0, none⟩ = some (.string bytes)) (c7 : w.cell? ⟨g7, 0, none⟩ = some (.int .i64 n))
    (hn : n ≤ bytes.size) (hname : name.size ≤ 128) (hs : (lkD s.L name).size + n ≤ 16777216) (hl : (lk s.L name).isSome = true ∨ s.L.length < 65536) :
    Calls Tryz.prog 68 #[.pointer (some ⟨p, 0, none⟩), .func (.func 95) #[] #[.pointer (some ⟨g3, 0, none⟩), .pointer (some ⟨g4, 0, none⟩), .pointer (some ⟨g5, 0, none⟩), .pointer (some ⟨g7, 0, none⟩)]] w fun e w' => e = .returned (.tuple #[]) ∧ DK w' p b (pieceS s name (bytes.extract 0 n)) ∧ Kp p b w w' := by
  have hlen : (lay s.L name (lkD s.L name ++ bytes.extract 0 n)).length ≤ 65536 := by
    rw [lay_len _ _ _ h.2.2.1]
    have := h.2.2.2.1
    split
    · exact this
    · rename_i hh
      rcases hl with hl | hl
      · exact absurd hl hh
      · omega
  refine raw_ok p b s 95 _ (fun w' => DK w' p b (pieceS s name (bytes.extract 0 n)) ∧ Kp p b w w') w enters69 h hr (fun q => ?_)
  have ne : ∀ {g : Nat} {v : Value}, g ≠ p → ((w.drewN q).setCell ⟨p, 2, none⟩ v).cell? ⟨g, 0, none⟩ = w.cell? ⟨g, 0, none⟩ := fun {g v} hgp => World.cell?_setCell_other _ _ _ _ (fun e => by injection e with e; exact hgp e.symm)
  refine (addc_calls p b { s with cnt := wrap64 (s.cnt + 1) } g3 g4 g5 g7 name bytes n _ ((h.drew q).setCnt _) (by rw [ne hg.1.1]; exact c3) (by rw [ne hg.1.2]; exact c4) (by rw [ne hg.2.1]; exact c5) (by rw [ne hg.2.2]; exact c7) hn hname hs hlen).mono ?_
  rintro e w' ⟨rfl, hD, q2, ht⟩
  exact ⟨rfl, hD, ((((Kp.refl p b w).drew q).set _).drew q2).turned ht⟩
set_option maxHeartbeats 16000000 in
set_option maxRecDepth 100000 in
theorem add_calls (p b : Nat) (s : St) (name bytes : ByteArray) (w : World) (h : DK w p b s) (hname : name.size ≤ 128) (hs : (lkD s.L name).size + bytes.size ≤ 16777216) (hl : (lk s.L name).isSome = true ∨ s.L.length < 65536) :
    Calls Tryz.prog 62 #[.pointer (some ⟨p, 0, none⟩), .string name, .string bytes] w fun e w' => (((addF s name bytes).2 = true ∧ e = .returned (.tuple #[])) ∨ ((addF s name bytes).2 = false ∧ e = .panicked [lostE])) ∧ DK w' p b (addF s name bytes).1 ∧ Kp p b w w' := by
  have HD := Aside0.mk h
  have hp := h.lt
  have hpb := h.ltb
  have hmf : ∀ (fn : Fn) (first cap : Array Value) (w : World), (Instr.makeFunc fn first cap).run Tryz.prog w = .ok (.func fn first cap) w := fun _ _ _ _ => rfl
  clear h
  generalize htot : addF s name bytes = tot at *
  have HTOT := Aside0.mk htot
  clear htot
  go_enter Tryz.func62, Tryz.ntmps62
  go_wp2_with (fail)
  go_loopg [6] (bytes.size + 1) (fun g v6 w' => ∃ (s1 : St) (r : ByteArray) (first : Bool), g = r.size + (if first = true then 1 else 0) ∧ v6 = .bool first ∧ w'.cell? ⟨w.heap.size, 0, none⟩ = some (.pointer (some ⟨p, 0, none⟩)) ∧ w'.cell? ⟨w.heap.size + 1, 0, none⟩ = some (.string name) ∧ w'.cell? ⟨w.heap.size + 1 + 1, 0, none⟩ = some (.string r) ∧ w'.frozen? ⟨w.heap.size + 1 + 1, 0, none⟩ = false ∧ Aside0 (DK w' p b s1) ∧ Aside0 (Kp p b w w') ∧ Aside0 (w.heap.size + 3 ≤ w'.heap.size) ∧ Aside0 ((lkD s1.L name).size + r.size ≤ 16777216) ∧ Aside0 ((lk s1.L name).isSome = true ∨ s1.L.length < 65536) ∧ Aside0 (if first = true ∨ r.size ≠ 0 then addF s1 name r = tot else (s1, true) = tot))
  case atStart =>
    refine ⟨s, bytes, true, rfl, rfl, ?_, ?_, ?_, ?_, ⟨?_⟩, ⟨?_⟩, ⟨?_⟩, ⟨hs⟩, ⟨hl⟩, ⟨by rw [if_pos (.inl rfl)]; exact HTOT.out⟩⟩
    · go_simp
    · go_simp
    · go_simp
    · go_simp
    · exact HD.out.below ((((Below.refl _ _).alloc (Nat.le_refl _) _).alloc (by simp) _).alloc (by simp <;> omega) _)
    · exact Kp.of ((((Below.refl _ _).alloc (Nat.le_refl _) _).alloc (by simp) _).alloc (by simp <;> omega) _)
    · simp
  case round =>
    obtain ⟨s1, r, first, rfl, rfl, c3, c4, c5, f5, HD1, HK1, HZ1, HS1, HL1, HE1⟩ := hrel
    have hzr := HZ1.out
    by_cases hc : first = true ∨ r.size ≠ 0
    · have HE2 : Aside0 (addF s1 name r = tot) := ⟨by have := HE1.out; rw [if_pos hc] at this; exact this⟩
      clear HE1
      have hg : first = false → (r.toList == []) = false := by
        rintro rfl
        rw [ByteArray.toList_eq]
        simp only [beq_eq_false_iff_ne]
        intro h
        have e := congrArg List.length h
        rw [Array.length_toList] at e
        rcases hc with hc | hc
        · cases hc
        · exact hc e
      have hp0 : first = false → 0 < r.size := by
        rintro rfl
        rcases hc with hc | hc
        · cases hc
        · omega
      clear hc
      obtain ⟨n, hn, hmin, hnx⟩ : ∃ n : Nat, n ≤ r.size ∧ min (r.size : Int) 32 = (n : Int) ∧ ((r.size ≤ 32 → n = r.size) ∧ (¬ r.size ≤ 32 → n = 32)) := by
        by_cases h32 : r.size ≤ 32
        · exact ⟨r.size, Nat.le_refl _, by omega, fun _ => rfl, fun h => absurd h32 h⟩
        · exact ⟨32, by omega, by omega, fun h => absurd h h32, fun _ => rfl⟩
      have q1 : (0 : Int) ≤ (n : Int) := by omega
      have q2 : (n : Int) ≤ (r.size : Int) := by omega
      have q3 : (r.size : Int) ≤ (r.size : Int) := by omega
      have hA : Below wr.heap.size wr (wr.alloc (Obj.cells #[Value.int IntKind.i64 n] 3)) := (Below.refl _ _).alloc (Nat.le_refl _) _
      have a3 := pw_cell_below hA c3
      have a4 := pw_cell_below hA c4
      have a5 := pw_cell_below hA c5
      have af := (hA.frozen (p := ⟨w.heap.size + 1 + 1, 0, none⟩) (by show w.heap.size + 1 + 1 < wr.heap.size; omega)).trans f5
      have a7 : (wr.alloc (Obj.cells #[Value.int IntKind.i64 n] 3)).cell? ⟨wr.heap.size, 0, none⟩ = some (.int .i64 n) := by simp
      have HDA := Aside0.mk (HD1.out.below hA)
      clear hA
      by_cases hraw : rawOk s1
      · have HR : Aside0 (rawOk s1) := ⟨hraw⟩
        clear hraw
        cases first
        case false =>
            have hne := hg rfl
            have hp1 := hp0 rfl
            have hn0 : 0 < n := by
              by_cases h32 : r.size ≤ 32
              · have := hnx.1 h32; omega
              · have := hnx.2 h32; omega
            clear hg hp0
            go_wp2_with (fail)
            refine (piece_calls p b s1 w.heap.size (w.heap.size + 1) (w.heap.size + 1 + 1) wr.heap.size name r n _ HDA.out HR.out ⟨⟨by omega, by omega⟩, by omega, by omega⟩ a3 a4 a5 a7 hn hname (by have := HS1.out; omega) HL1.out).mono ?_
            rintro e w5 ⟨rfl, hD5, hK5⟩
            have b3 := (hK5.cell (k := w.heap.size) (o := 0) (by simp; omega) (by omega) (by omega)).trans a3
            have b4 := (hK5.cell (k := w.heap.size + 1) (o := 0) (by simp; omega) (by omega) (by omega)).trans a4
            have b5 := (hK5.cell (k := w.heap.size + 1 + 1) (o := 0) (by simp; omega) (by omega) (by omega)).trans a5
            have b7 := (hK5.cell (k := wr.heap.size) (o := 0) (by simp) (by omega) (by omega)).trans a7
            have bf := (hK5.frz (k := w.heap.size + 1 + 1) (o := 0) (by simp; omega) (by omega) (by omega)).trans af
            have hz5 : wr.heap.size + 1 ≤ w5.heap.size := by have := hK5.size; simpa using this
            have HD5 := Aside0.mk hD5
            have HK5 := Aside0.mk ((HK1.out.trans (Kp.of ((Below.refl _ _).alloc (Nat.le_refl _) (Obj.cells #[Value.int IntKind.i64 n] 3)))).trans hK5)
            clear hD5 hK5 a3 a4 a5 a7 af
            go_wp2_with (fail)
            go_roundg (r.size - n)
            case measure => first | omega | (show r.size - n < r.size + 0; omega) | (show r.size - n < r.size + 1; omega)
            case rel =>
              have hrs : (r.extract n r.size).size = r.size - n := by rw [ByteArray.size_extract]; omega
              refine ⟨pieceS s1 name (r.extract 0 n), r.extract n r.size, false, by rw [hrs]; rfl, rfl, ?_, ?_, ?_, ?_, ⟨?_⟩, ⟨?_⟩, ⟨?_⟩, ⟨?_⟩, ⟨.inl (lk_lay_some _ _ _)⟩, ⟨?_⟩⟩
              · rw [World.cell?_setCell_other _ _ _ _ (fun e => by injection e with e; omega)]; exact b3
              · rw [World.cell?_setCell_other _ _ _ _ (fun e => by injection e with e; omega)]; exact b4
              · exact World.cell?_setCell_same _ _ _ b5
              · simpa using bf
              · exact ⟨(Below.heap_setCell _ _ _ p (by show p ≠ w.heap.size + 1 + 1; omega)).trans HD5.out.1, HD5.out.2.1.kept (Below.heap_setCell _ _ _ b (by show b ≠ w.heap.size + 1 + 1; omega)), HD5.out.2.2⟩
              · have k := HK5.out
                exact ⟨k.os, k.tape, k.output, by simpa using k.size, fun i hi h1 h2 => (Below.heap_setCell _ _ _ i (by show i ≠ w.heap.size + 1 + 1; omega)).trans (k.block i hi h1 h2)⟩
              · have := HZ1.out; simp; omega
              · show (lkD (lay s1.L name (lkD s1.L name ++ r.extract 0 n)) name).size + _ ≤ _
                have hx : (r.extract 0 n).size = n := by rw [ByteArray.size_extract]; omega
                rw [lkD_lay, ByteArray.size_append, hx, hrs]
                have := HS1.out
                omega
              · have he := HE2.out
                rw [addF, if_pos HR.out] at he
                by_cases h32 : r.size ≤ 32
                · have hnr : n = r.size := hnx.1 h32
                  rw [if_neg (by rw [hrs]; simp; omega)]
                  rw [if_pos h32] at he
                  rw [hnr]
                  exact he
                · have hnr : n = 32 := hnx.2 h32
                  rw [if_pos (.inr (by rw [hrs]; omega))]
                  rw [if_neg h32] at he
                  rw [hnr]
                  exact he
        case true =>
            clear hg
            go_wp2_with (fail)
            refine (piece_calls p b s1 w.heap.size (w.heap.size + 1) (w.heap.size + 1 + 1) wr.heap.size name r n _ HDA.out HR.out ⟨⟨by omega, by omega⟩, by omega, by omega⟩ a3 a4 a5 a7 hn hname (by have := HS1.out; omega) HL1.out).mono ?_
            rintro e w5 ⟨rfl, hD5, hK5⟩
            have b3 := (hK5.cell (k := w.heap.size) (o := 0) (by simp; omega) (by omega) (by omega)).trans a3
            have b4 := (hK5.cell (k := w.heap.size + 1) (o := 0) (by simp; omega) (by omega) (by omega)).trans a4
            have b5 := (hK5.cell (k := w.heap.size + 1 + 1) (o := 0) (by simp; omega) (by omega) (by omega)).trans a5
            have b7 := (hK5.cell (k := wr.heap.size) (o := 0) (by simp) (by omega) (by omega)).trans a7
            have bf := (hK5.frz (k := w.heap.size + 1 + 1) (o := 0) (by simp; omega) (by omega) (by omega)).trans af
            have hz5 : wr.heap.size + 1 ≤ w5.heap.size := by have := hK5.size; simpa using this
            have HD5 := Aside0.mk hD5
            have HK5 := Aside0.mk ((HK1.out.trans (Kp.of ((Below.refl _ _).alloc (Nat.le_refl _) (Obj.cells #[Value.int IntKind.i64 n] 3)))).trans hK5)
            clear hD5 hK5 a3 a4 a5 a7 af
            go_wp2_with (fail)
            go_roundg (r.size - n)
            case measure => first | omega | (show r.size - n < r.size + 0; omega) | (show r.size - n < r.size + 1; omega)
            case rel =>
              have hrs : (r.extract n r.size).size = r.size - n := by rw [ByteArray.size_extract]; omega
              refine ⟨pieceS s1 name (r.extract 0 n), r.extract n r.size, false, by rw [hrs]; rfl, rfl, ?_, ?_, ?_, ?_, ⟨?_⟩, ⟨?_⟩, ⟨?_⟩, ⟨?_⟩, ⟨.inl (lk_lay_some _ _ _)⟩, ⟨?_⟩⟩
              · rw [World.cell?_setCell_other _ _ _ _ (fun e => by injection e with e; omega)]; exact b3
              · rw [World.cell?_setCell_other _ _ _ _ (fun e => by injection e with e; omega)]; exact b4
              · exact World.cell?_setCell_same _ _ _ b5
              · simpa using bf
              · exact ⟨(Below.heap_setCell _ _ _ p (by show p ≠ w.heap.size + 1 + 1; omega)).trans HD5.out.1, HD5.out.2.1.kept (Below.heap_setCell _ _ _ b (by show b ≠ w.heap.size + 1 + 1; omega)), HD5.out.2.2⟩
              · have k := HK5.out
                exact ⟨k.os, k.tape, k.output, by simpa using k.size, fun i hi h1 h2 => (Below.heap_setCell _ _ _ i (by show i ≠ w.heap.size + 1 + 1; omega)).trans (k.block i hi h1 h2)⟩
              · have := HZ1.out; simp; omega
              · show (lkD (lay s1.L name (lkD s1.L name ++ r.extract 0 n)) name).size + _ ≤ _
                have hx : (r.extract 0 n).size = n := by rw [ByteArray.size_extract]; omega
                rw [lkD_lay, ByteArray.size_append, hx, hrs]
                have := HS1.out
                omega
              · have he := HE2.out
                rw [addF, if_pos HR.out] at he
                by_cases h32 : r.size ≤ 32
                · have hnr : n = r.size := hnx.1 h32
                  rw [if_neg (by rw [hrs]; simp; omega)]
                  rw [if_pos h32] at he
                  rw [hnr]
                  exact he
                · have hnr : n = 32 := hnx.2 h32
                  rw [if_pos (.inr (by rw [hrs]; omega))]
                  rw [if_neg h32] at he
                  rw [hnr]
                  exact he
      · have h01 : 0 ≤ s1.cut ∧ s1.cut ≤ s1.cnt := Decidable.not_not.1 hraw
        cases first
        case false =>
          have hne := hg rfl
          clear hg
          go_wp2_with (fail)
          refine (raw_no p b s1 _ _ HDA.out h01.1 h01.2).mono ?_
          rintro e w5 ⟨rfl, hD5, hK5⟩
          have HD5 := Aside0.mk hD5
          have HK5 := Aside0.mk ((HK1.out.trans (Kp.of ((Below.refl _ _).alloc (Nat.le_refl _) (Obj.cells #[Value.int IntKind.i64 n] 3)))).trans hK5)
          clear hD5 hK5
          go_wp2_with (fail)
          rw [← HE2.out, addF, if_neg hraw]
          exact ⟨rfl, .inr ⟨rfl, rfl⟩, HD5.out, HK5.out⟩
        case true =>
          clear hg
          go_wp2_with (fail)
          refine (raw_no p b s1 _ _ HDA.out h01.1 h01.2).mono ?_
          rintro e w5 ⟨rfl, hD5, hK5⟩
          have HD5 := Aside0.mk hD5
          have HK5 := Aside0.mk ((HK1.out.trans (Kp.of ((Below.refl _ _).alloc (Nat.le_refl _) (Obj.cells #[Value.int IntKind.i64 n] 3)))).trans hK5)
          clear hD5 hK5
          go_wp2_with (fail)
          rw [← HE2.out, addF, if_neg hraw]
          exact ⟨rfl, .inr ⟨rfl, rfl⟩, HD5.out, HK5.out⟩
    · have hf : first = false := by cases first with | false => rfl | true => exact absurd (.inl rfl) hc
      subst hf
      have hr0 : r.size = 0 := by
        rcases Nat.eq_zero_or_pos r.size with h | h
        · exact h
        · exact absurd (.inr (by omega)) hc
      have hne : (r.toList == []) = true := by
        rw [ByteArray.toList_eq]
        have e : r.data.toList = [] := List.length_eq_zero_iff.1 (by rw [Array.length_toList]; exact hr0)
        rw [e]
        rfl
      have HE2 : Aside0 ((s1, true) = tot) := ⟨by have := HE1.out; rw [if_neg hc] at this; exact this⟩
      clear HE1 hc hr0
      go_wp2_with (fail)
      go_end0
      rw [← HE2.out]
      exact ⟨.inl ⟨rfl, rfl⟩, HD1.out, HK1.out⟩
end
section
open Go.RowKit Go.Extern.Stop Go.Stop Go.Extern Go.Proofs.YtmceikfbgmcmaaaGreatDoorW.PrintWords Go.Proofs.YtmceikfbgmcmaaaGreatDoorW.PrintLast Go.Proofs.YtmceikfbgmcmaaaGreatDoorW.PrintMore
set_option linter.unusedSimpArgs false
theorem DK.other {w : World} {p b g i : Nat} {s : St} (h : DK w p b s) (h1 : g ≠ p) (h2 : g ≠ b) (v : Value) : DK (w.setCell ⟨g, i, none⟩ v) p b s :=
  ⟨(Below.heap_setCell w ⟨g, i, none⟩ v p (fun e => h1 e.symm)).trans h.1, h.2.1.kept (Below.heap_setCell w ⟨g, i, none⟩ v b (fun e => h2 e.symm)), h.2.2⟩
theorem Kp.new {p b g i : Nat} {u v : World} (h : Kp p b u v) (hg : u.heap.size ≤ g) (x : Value) : Kp p b u (v.setCell ⟨g, i, none⟩ x) :=
  ⟨h.os, h.tape, h.output, by simpa using h.size, fun k hk h1 h2 => (Below.heap_setCell v ⟨g, i, none⟩ x k (by show k ≠ g; omega)).trans (h.block k hk h1 h2)⟩
theorem FC.other {w : World} {e c g i : Nat} {name : ByteArray} (h : FC w e c name) (hg : g ≠ e) (v : Value) : FC (w.setCell ⟨g, i, none⟩ v) e c name := by
  have ne : ∀ o, (w.setCell ⟨g, i, none⟩ v).cell? ⟨e, o, none⟩ = w.cell? ⟨e, o, none⟩ := fun o => World.cell?_setCell_other _ _ _ _ (fun q => by injection q with q; exact hg q)
  exact ⟨(ne 0).trans h.1, (ne 1).trans h.2.1, (ne 2).trans h.2.2.1, (ne 3).trans h.2.2.2⟩
theorem eql20_nil (w : World) : (binOp .eql 20 .nilIface .nilIface).run Tryz.prog w = .ok (.bool true) w := by kernel_rfl
theorem eql20_lost (w : World) : (binOp .eql 20 (.iface 126 (.agg #[])) .nilIface).run Tryz.prog w = .ok (.bool false) w := by kernel_rfl
theorem assert98 (w : World) : (Instr.typeAssert (.iface 126 (.agg #[])) 20 126 true).run Tryz.prog w = .ok (.tuple #[.agg #[], .bool true]) w := by kernel_rfl
set_option maxRecDepth 100000 in
theorem catch_idle (a c : Addr) (w : World) :
    CallsD Tryz.prog 94 #[.pointer (some a), .pointer (some c)] .returning w fun e u' w' => e = .returned (.tuple #[]) ∧ u' = .returning ∧ w' = w := by
  have h1 := eql20_nil
  refine callsD_of_wpS Tryz.func94 rfl fun c₀ cs hu => ?_
  apply wpS_seq
  apply wpS_region
  simp [wpOpsS, go_sem, recoverD, hu, Tryz.ntmps94, Exit.thenS]
  refine wpS_of_wp ?_
  simp only [Act.put, Array.replicate, List.replicate]
  go_wp2_with (fail)
  refine ⟨rfl, .returning, ?_, _, results_none rfl _ _ _, rfl, rfl, rfl⟩
  cases c₀
  simp_all
set_option maxRecDepth 100000 in
theorem catch_lost (ga gc : Nat) (name : ByteArray) (older : List PanicEntry) (w : World) (hn : w.cell? ⟨ga, 0, none⟩ = some (.string name)) (hc : w.cell? ⟨gc, 0, none⟩ = some .nilIface) (hf : w.frozen? ⟨gc, 0, none⟩ = false) :
    CallsD Tryz.prog 94 #[.pointer (some ⟨ga, 0, none⟩), .pointer (some ⟨gc, 0, none⟩)] (.panicking (lostE :: older)) w fun e u' w' => e = .returned (.tuple #[]) ∧ u' = .panicking ({ v := .iface 126 (.agg #[]), recovered := true } :: older) ∧ ∃ g w1, FC w1 g 5 name ∧ Below w.heap.size w w1 ∧ w.heap.size ≤ g ∧ w' = w1.setCell ⟨gc, 0, none⟩ (.iface 98 (.pointer (some ⟨g, 0, none⟩))) := by
  have h1 := eql20_lost
  have h2 := assert98
  refine callsD_of_wpS Tryz.func94 rfl fun c₀ cs hu => ?_
  apply wpS_seq
  apply wpS_region
  simp [wpOpsS, go_sem, recoverD, hu, Tryz.ntmps94, Exit.thenS]
  refine wpS_of_wp ?_
  simp only [Act.put, Array.replicate, List.replicate]
  have hA : Below w.heap.size w (w.alloc (Obj.cells #[] 126)) := (Below.refl _ _).alloc (Nat.le_refl _) _
  have hn1 := pw_cell_below hA hn
  have hga : gc < w.heap.size := World.block_lt_of_cell? w _ hc
  go_wp2_with (fail)
  refine (fault_calls 5 name _).mono ?_
  rintro e w1 ⟨g, rfl, hg, hF, hb⟩
  have hb1 := below_step (w := w) hA hb
  have hc1 := pw_cell_below hb1 hc
  have hf1 := (hb1.frozen (p := ⟨gc, 0, none⟩) hga).trans hf
  have hgs : w.heap.size ≤ g := by have := hA.size; omega
  clear hb
  go_wp2_with (fail)
  refine ⟨rfl, _, ?_, _, results_none rfl _ _ _, rfl, rfl, g, w1, hF, hb1, hgs, rfl⟩
  rfl
set_option maxHeartbeats 16000000 in
set_option maxRecDepth 100000 in
theorem powered_calls (p b : Nat) (s' : St) (ok : Bool) (name : ByteArray) (g : Nat) (lb : Array Value) (w : World) (eg : ∀ args w, (callFunc g args).run Tryz.prog w = .ok (.enter g args) w) (hp : p < w.heap.size) (hpb : b < w.heap.size)
    (hf : ∀ w1, Below w.heap.size w w1 → Calls Tryz.prog g lb w1 fun e w' => ((ok = true ∧ e = .returned (.tuple #[])) ∨ (ok = false ∧ e = .panicked [lostE])) ∧ DK w' p b s' ∧ Kp p b w1 w') :
    Calls Tryz.prog 60 #[.pointer (some ⟨p, 0, none⟩), .string name, .func (.func g) #[] lb] w fun e w' => DK w' p b s' ∧ Kp p b w w' ∧ ((ok = true ∧ e = .returned .nilIface) ∨ (ok = false ∧ ∃ h, e = .returned (.iface 98 (.pointer (some ⟨h, 0, none⟩))) ∧ w.heap.size ≤ h ∧ FC w' h 5 name)) := by
  have hmf : ∀ (fn : Fn) (first cap : Array Value) (w : World), (Instr.makeFunc fn first cap).run Tryz.prog w = .ok (.func fn first cap) w := fun _ _ _ _ => rfl
  have HF := Aside0.mk hf
  clear hf
  go_enter_defers Tryz.func60, Tryz.ntmps60
  go_wp2_with (fail)
  refine (HF.out _ (((Below.refl _ _).alloc (Nat.le_refl _) _).alloc (by simp) _)).mono ?_
  have hA : Below w.heap.size w ((w.alloc (Obj.cells #[Value.string name] 9)).alloc (Obj.cells #[Value.nilIface] 25)) := ((Below.refl _ _).alloc (Nat.le_refl _) _).alloc (by simp) _
  have a4 : ((w.alloc (Obj.cells #[Value.string name] 9)).alloc (Obj.cells #[Value.nilIface] 25)).cell? ⟨w.heap.size, 0, none⟩ = some (.string name) := by go_simp
  have a6 : ((w.alloc (Obj.cells #[Value.string name] 9)).alloc (Obj.cells #[Value.nilIface] 25)).cell? ⟨w.heap.size + 1, 0, none⟩ = some .nilIface := by go_simp
  have af : ((w.alloc (Obj.cells #[Value.string name] 9)).alloc (Obj.cells #[Value.nilIface] 25)).frozen? ⟨w.heap.size + 1, 0, none⟩ = false := by go_simp
  rintro e w5 ⟨hor, hD5, hK5⟩
  have b4 := (hK5.cell (k := w.heap.size) (o := 0) (by simp; omega) (by omega) (by omega)).trans a4
  have b6 := (hK5.cell (k := w.heap.size + 1) (o := 0) (by simp) (by omega) (by omega)).trans a6
  have bf := (hK5.frz (k := w.heap.size + 1) (o := 0) (by simp) (by omega) (by omega)).trans af
  have HK5 := Aside0.mk ((Kp.of (p := p) (b := b) hA).trans hK5)
  have HD5 := Aside0.mk hD5
  have hz5 : w.heap.size + 2 ≤ w5.heap.size := by have := hK5.size; simp at this; omega
  clear hK5 hD5 a4 a6 af hA
  rcases hor with ⟨rfl, rfl⟩ | ⟨rfl, rfl⟩
  · go_wp2_with (fail)
    refine leaves_cons (f := 94) (args := #[.pointer (some ⟨w.heap.size, 0, none⟩), .pointer (some ⟨w.heap.size + 1, 0, none⟩)]) (by simp) (by simp [go_sem]) ?_
    refine (catch_idle _ _ _).mono ?_
    rintro e u' w'' ⟨rfl, rfl, rfl⟩
    have c6 : (w5.setCell ⟨w.heap.size + 1, 0, none⟩ .nilIface).cell? ⟨w.heap.size + 1, 0, none⟩ = some .nilIface := World.cell?_setCell_same _ _ _ b6
    simp [Leaves, settle, results, Tryz.results60, go_sem, c6]
    exact ⟨HD5.out.other (by omega) (by omega) _, HK5.out.new (by omega) _⟩
  · go_wp2_with (fail)
    refine leaves_cons (f := 94) (args := #[.pointer (some ⟨w.heap.size, 0, none⟩), .pointer (some ⟨w.heap.size + 1, 0, none⟩)]) (by simp) (by simp [go_sem]) ?_
    refine (catch_lost w.heap.size (w.heap.size + 1) name [] w5 b4 b6 bf).mono ?_
    rintro e u' w'' ⟨rfl, rfl, h, w6, hF6, hb6, hh, rfl⟩
    have d6 := pw_cell_below hb6 b6
    have c6 : (w6.setCell ⟨w.heap.size + 1, 0, none⟩ (.iface 98 (.pointer (some ⟨h, 0, none⟩)))).cell? ⟨w.heap.size + 1, 0, none⟩ = some (.iface 98 (.pointer (some ⟨h, 0, none⟩))) := World.cell?_setCell_same _ _ _ d6
    simp [Leaves, settle, results, Tryz.results60, go_sem, c6]
    exact ⟨(HD5.out.below hb6).other (by omega) (by omega) _, (HK5.out.trans (Kp.of hb6)).new (by omega) _, by omega, hF6.other (by omega) _⟩
end
section
open Go.RowKit Go.Extern.Stop Go.Stop Go.Extern Go.Proofs.YtmceikfbgmcmaaaGreatDoorW.PrintWords Go.Proofs.YtmceikfbgmcmaaaGreatDoorW.PrintLast Go.Proofs.YtmceikfbgmcmaaaGreatDoorW.PrintMore
set_option linter.unusedSimpArgs false
theorem int_beq (c : Nat) : ((c : Int) == 0) = decide (c = 0) := by
  by_cases h : c = 0
  · subst h; rfl
  · rw [decide_eq_false h, beq_eq_false_iff_ne]
    omega
theorem int_ne {c : Nat} (h : c ≠ 0) : ¬ (c : Int) = 0 := by omega
def thereC (s : St) (name : ByteArray) : Nat := if ableC s name ≠ 0 then ableC s name else if (lk s.L name).isSome then 0 else 6
theorem ableC_lt (s : St) (name : ByteArray) : ableC s name < 100 := by
  unfold ableC
  repeat' split
  all_goals omega
theorem thereC_lt (s : St) (name : ByteArray) : thereC s name < 100 := by
  unfold thereC
  have := ableC_lt s name
  repeat' split
  all_goals omega
set_option maxHeartbeats 8000000 in
set_option maxRecDepth 100000 in
theorem there_nil (name : ByteArray) (w : World) : Calls Tryz.prog 73 #[.pointer none, .string name] w fun e w' => e = .returned (.int .i64 1) ∧ w' = w := by
  go_enter Tryz.func73, Tryz.ntmps73
  go_wp2_with (fail)
  refine (able_nil name _).mono ?_
  rintro e w1 ⟨rfl, rfl⟩
  go_wp2_with (fail)
  go_ret
  exact ⟨rfl, rfl⟩
set_option maxHeartbeats 8000000 in
set_option maxRecDepth 100000 in
theorem there_calls (p b : Nat) (s : St) (name : ByteArray) (w : World) (h : DK w p b s) (hn : name.size ≤ maxLen) : Calls Tryz.prog 73 #[.pointer (some ⟨p, 0, none⟩), .string name] w fun e w' => e = .returned (.int .i64 (thereC s name)) ∧ w' = w := by
  obtain ⟨c0, c1, c2, c3, cf⟩ := h.c
  have HA := Aside0.mk (able_calls p b s name w h)
  have hlook := h.2.1.look_ok name hn
  unfold thereC
  clear h
  by_cases h0 : ableC s name = 0
  · rw [h0] at HA
    rw [if_neg (by omega)]
    cases hl : lk s.L name with
    | none =>
      rw [hl] at hlook
      go_enter Tryz.func73, Tryz.ntmps73
      go_wp2_with (fail)
      refine HA.out.mono ?_
      rintro e w1 ⟨rfl, rfl⟩
      go_wp2_with (fail)
      go_ret
      exact ⟨rfl, rfl⟩
    | some v =>
      rw [hl] at hlook
      go_enter Tryz.func73, Tryz.ntmps73
      go_wp2_with (fail)
      refine HA.out.mono ?_
      rintro e w1 ⟨rfl, rfl⟩
      go_wp2_with (fail)
      go_ret
      exact ⟨rfl, rfl⟩
  · rw [if_pos h0]
    generalize ableC s name = c at *
    have hc := int_ne h0
    go_enter Tryz.func73, Tryz.ntmps73
    go_wp2_with (fail)
    refine HA.out.mono ?_
    rintro e w1 ⟨rfl, rfl⟩
    go_wp2_with (fail)
    go_ret
    exact ⟨rfl, rfl⟩
/-- The error that the number tells: none, or a fault of that name. -/
def Er (w : World) (lo : Nat) (e : Value) (c : Nat) (name : ByteArray) : Prop := (c = 0 ∧ e = .nilIface) ∨ (0 < c ∧ ∃ h, e = .iface 98 (.pointer (some ⟨h, 0, none⟩)) ∧ lo ≤ h ∧ h < w.heap.size ∧ FC w h c name)
theorem FC.lt {w : World} {h c : Nat} {name : ByteArray} (k : FC w h c name) : h < w.heap.size := World.block_lt_of_cell? w _ k.1
set_option maxHeartbeats 8000000 in
set_option maxRecDepth 100000 in
theorem read_nil (name : ByteArray) (w : World) : Calls Tryz.prog 34 #[.pointer none, .string name] w fun e w' => ∃ v, e = .returned (.tuple #[.string ⟨#[]⟩, v]) ∧ Er w' w.heap.size v 1 name ∧ Below w.heap.size w w' := by
  go_enter Tryz.func34, Tryz.ntmps34
  go_wp2_with (fail)
  refine (there_nil name _).mono ?_
  rintro e w1 ⟨rfl, rfl⟩
  go_wp2_with (fail)
  refine (fault_calls 1 name _).mono ?_
  rintro e w2 ⟨g, rfl, hg, hF, hb⟩
  go_wp2_with (fail)
  go_ret2
  exact ⟨_, rfl, .inr ⟨by decide, g, rfl, hg, hF.lt, hF⟩, hb⟩
set_option maxHeartbeats 8000000 in
set_option maxRecDepth 100000 in
theorem read_calls (p b : Nat) (s : St) (name : ByteArray) (w : World) (h : DK w p b s) (hn : name.size ≤ maxLen) : Calls Tryz.prog 34 #[.pointer (some ⟨p, 0, none⟩), .string name] w fun e w' => ∃ v, e = .returned (.tuple #[.string (if thereC s name = 0 then lkD s.L name else ⟨#[]⟩), v]) ∧ Er w' w.heap.size v (thereC s name) name ∧ Below w.heap.size w w' := by
  obtain ⟨c0, c1, c2, c3, cf⟩ := h.c
  have HA := Aside0.mk (there_calls p b s name w h hn)
  have hlook := h.2.1.look name hn
  clear h
  by_cases h0 : thereC s name = 0
  · rw [h0] at HA ⊢
    rw [if_pos rfl]
    go_enter Tryz.func34, Tryz.ntmps34
    go_wp2_with (fail)
    refine HA.out.mono ?_
    rintro e w1 ⟨rfl, rfl⟩
    go_wp2_with (fail)
    go_ret2
    exact ⟨_, rfl, .inl ⟨rfl, rfl⟩, Below.refl _ _⟩
  · rw [if_neg h0]
    generalize thereC s name = c at *
    have hc := int_ne h0
    go_enter Tryz.func34, Tryz.ntmps34
    go_wp2_with (fail)
    refine HA.out.mono ?_
    rintro e w1 ⟨rfl, rfl⟩
    go_wp2_with (fail)
    refine (fault_calls c name _).mono ?_
    rintro e w2 ⟨g, rfl, hg, hF, hb⟩
    go_wp2_with (fail)
    go_ret2
    exact ⟨_, rfl, .inr ⟨by omega, g, rfl, hg, hF.lt, hF⟩, hb⟩
set_option maxHeartbeats 8000000 in
set_option maxRecDepth 100000 in
theorem restart_nil (n : Int) (w : World) : Calls Tryz.prog 17 #[.pointer none, .int .i64 n] w fun e w' => ∃ v, e = .returned v ∧ Er w' w.heap.size v 1 ⟨#[]⟩ ∧ Below w.heap.size w w' := by
  have h0 := nil23
  go_enter Tryz.func17, Tryz.ntmps17
  go_wp2_with (fail)
  refine (fault_calls 1 ⟨#[]⟩ _).mono ?_
  rintro e w2 ⟨g, rfl, hg, hF, hb⟩
  go_wp2_with (fail)
  go_ret
  exact ⟨_, rfl, .inr ⟨by decide, g, rfl, hg, hF.lt, hF⟩, hb⟩
set_option maxHeartbeats 8000000 in
set_option maxRecDepth 100000 in
theorem restart_calls (p b : Nat) (s : St) (n : Int) (w : World) (h : DK w p b s) : Calls Tryz.prog 17 #[.pointer (some ⟨p, 0, none⟩), .int .i64 n] w fun e w' => e = .returned .nilIface ∧ DK w' p b ⟨s.L, n, 0, false⟩ ∧ Kp p b w w' := by
  obtain ⟨c0, c1, c2, c3, cf⟩ := h.c
  have f1 := cf 1
  have f2 := cf 2
  have f3 := cf 3
  have HD := Aside0.mk h
  clear h
  go_enter Tryz.func17, Tryz.ntmps17
  go_wp2_with (fail)
  go_ret
  exact ⟨rfl, ((HD.out.setCut n).setCnt 0).setDead false, (((Kp.refl p b w).set _).set _).set _⟩
set_option maxHeartbeats 8000000 in
set_option maxRecDepth 100000 in
theorem writes_nil (w : World) : Calls Tryz.prog 19 #[.pointer none] w fun e w' => e = .returned (.int .i64 0) ∧ w' = w := by
  have h0 := nil23
  go_enter Tryz.func19, Tryz.ntmps19
  go_wp2
  go_ret
  exact ⟨rfl, rfl⟩
set_option maxHeartbeats 8000000 in
set_option maxRecDepth 100000 in
theorem writes_calls (p b : Nat) (s : St) (w : World) (h : DK w p b s) : Calls Tryz.prog 19 #[.pointer (some ⟨p, 0, none⟩)] w fun e w' => e = .returned (.int .i64 s.cnt) ∧ w' = w := by
  obtain ⟨c0, c1, c2, c3, cf⟩ := h.c
  clear h
  go_enter Tryz.func19, Tryz.ntmps19
  go_wp2
  go_ret
  exact ⟨rfl, rfl⟩
set_option maxHeartbeats 8000000 in
set_option maxRecDepth 100000 in
theorem dead_nil (w : World) : Calls Tryz.prog 20 #[.pointer none] w fun e w' => e = .returned (.bool false) ∧ w' = w := by
  have h0 : ∀ w, (binOp .neq 40 (.pointer none) (.pointer none)).run Tryz.prog w = .ok (.bool false) w := fun w => by kernel_rfl
  go_enter Tryz.func20, Tryz.ntmps20
  go_wp2
  go_ret
  exact ⟨rfl, rfl⟩
set_option maxHeartbeats 8000000 in
set_option maxRecDepth 100000 in
theorem dead_calls (p b : Nat) (s : St) (w : World) (h : DK w p b s) : Calls Tryz.prog 20 #[.pointer (some ⟨p, 0, none⟩)] w fun e w' => e = .returned (.bool s.dead) ∧ w' = w := by
  obtain ⟨c0, c1, c2, c3, cf⟩ := h.c
  clear h
  go_enter Tryz.func20, Tryz.ntmps20
  go_wp2
  go_ret
  exact ⟨rfl, rfl⟩
end
section
open Go.RowKit Go.Extern.Stop Go.Stop Go.Extern Go.Proofs.YtmceikfbgmcmaaaGreatDoorW.PrintWords Go.Proofs.YtmceikfbgmcmaaaGreatDoorW.PrintLast Go.Proofs.YtmceikfbgmcmaaaGreatDoorW.PrintMore
set_option linter.unusedSimpArgs false
theorem cell_dn {w : World} {a : Addr} {v : Value} (h : w.cell? a = some v) (n : Nat) : (w.drewN n).cell? a = some v := h
def roomB (s : St) (name : ByteArray) (n : Nat) : Bool := decide (n ≤ 16777216) && ((lk s.L name).isSome || decide (s.L.length < 65536))
set_option maxHeartbeats 8000000 in
set_option maxRecDepth 100000 in
theorem room_calls (p b : Nat) (s : St) (name : ByteArray) (n : Nat) (w : World) (h : DK w p b s) (hn : name.size ≤ maxLen) : Calls Tryz.prog 59 #[.pointer (some ⟨p, 0, none⟩), .string name, .int .i64 n] w fun e w' => e = .returned (.bool (roomB s name n)) ∧ w' = w := by
  obtain ⟨c0, c1, c2, c3, cf⟩ := h.c
  have hlook := h.2.1.look_ok name hn
  have hlen := h.2.1.len
  clear h
  by_cases h1 : n ≤ 16777216
  · have h1' : (n : Int) ≤ 16777216 := by omega
    cases hl : (lk s.L name).isSome
    · rw [hl] at hlook
      by_cases h2 : s.L.length < 65536
      · have h2' : (s.L.length : Int) < 65536 := by omega
        rw [show roomB s name n = true from by unfold roomB; rw [hl, decide_eq_true h1, decide_eq_true h2]; rfl]
        go_enter Tryz.func59, Tryz.ntmps59
        go_wp2_with (fail)
        go_ret
        exact ⟨rfl, rfl⟩
      · have h2' : ¬ (s.L.length : Int) < 65536 := by omega
        rw [show roomB s name n = false from by unfold roomB; rw [hl, decide_eq_true h1, decide_eq_false h2]; rfl]
        go_enter Tryz.func59, Tryz.ntmps59
        go_wp2_with (fail)
        go_ret
        exact ⟨rfl, rfl⟩
    · rw [hl] at hlook
      rw [show roomB s name n = true from by unfold roomB; rw [hl, decide_eq_true h1]; rfl]
      go_enter Tryz.func59, Tryz.ntmps59
      go_wp2_with (fail)
      go_ret
      exact ⟨rfl, rfl⟩
  · have h1' : ¬ (n : Int) ≤ 16777216 := by omega
    rw [show roomB s name n = false from by unfold roomB; rw [decide_eq_false h1]; rfl]
    go_enter Tryz.func59, Tryz.ntmps59
    go_wp2_with (fail)
    go_ret
    exact ⟨rfl, rfl⟩
theorem enters45 : ∀ args w, (callFunc 61 args).run Tryz.prog w = .ok (.enter 61 args) w := enters_of Tryz.func61 (by kernel_rfl) rfl
set_option maxHeartbeats 8000000 in
set_option maxRecDepth 100000 in
theorem appendc_calls (p b : Nat) (s : St) (name bytes : ByteArray) (g3 g4 g5 : Nat) (w : World) (h : DK w p b s) (c3 : w.cell? ⟨g3, 0, none⟩ = some (.pointer (some ⟨p, 0, none⟩))) (c4 : w.cell? ⟨g4, 0, none⟩ = some (.string name)) (c5 : w.cell? ⟨g5, 0, none⟩ = some (.string bytes))
    (hname : name.size ≤ 128) (hs : (lkD s.L name).size + bytes.size ≤ 16777216) (hl : (lk s.L name).isSome = true ∨ s.L.length < 65536) :
    Calls Tryz.prog 61 #[.pointer (some ⟨g3, 0, none⟩), .pointer (some ⟨g4, 0, none⟩), .pointer (some ⟨g5, 0, none⟩)] w fun e w' => (((addF s name bytes).2 = true ∧ e = .returned (.tuple #[])) ∨ ((addF s name bytes).2 = false ∧ e = .panicked [lostE])) ∧ DK w' p b (addF s name bytes).1 ∧ Kp p b w w' := by
  have HA := Aside0.mk (add_calls p b s name bytes w h hname hs hl)
  clear h
  go_enter Tryz.func61, Tryz.ntmps61
  go_wp2_with (fail)
  refine HA.out.mono ?_
  rintro e w1 ⟨⟨h2, rfl⟩ | ⟨h2, rfl⟩, hD, hK⟩
  · have H2 := Aside0.mk h2
    clear h2
    go_wp2_with (fail)
    go_end0
    exact ⟨.inl ⟨H2.out, rfl⟩, hD, hK⟩
  · have H2 := Aside0.mk h2
    clear h2
    go_wp2_with (fail)
    exact ⟨rfl, .inr ⟨H2.out, rfl⟩, hD, hK⟩
def appendF (s : St) (name bytes : ByteArray) : St × Nat :=
  if ableC s name ≠ 0 then (s, ableC s name)
  else if roomB s name ((lkD s.L name).size + bytes.size) = true then ((addF s name bytes).1, if (addF s name bytes).2 = true then 0 else 5)
  else (s, 4)
theorem ableC_zero {s : St} {name : ByteArray} (h : ableC s name = 0) : 1 ≤ name.size ∧ name.size ≤ 128 ∧ s.dead = false := by
  unfold ableC at h
  split at h
  · omega
  · split at h
    · omega
    · refine ⟨by omega, by omega, ?_⟩
      rename_i h2
      simpa using h2
theorem Er.of {w1 w' : World} {lo : Nat} {c : Nat} {name : ByteArray} {g : Nat} (hc : 0 < c) (hg : lo ≤ g) (hF : FC w' g c name) : Er w' lo (.iface 98 (.pointer (some ⟨g, 0, none⟩))) c name := .inr ⟨hc, g, rfl, hg, hF.lt, hF⟩
set_option maxHeartbeats 8000000 in
set_option maxRecDepth 100000 in
theorem append_nil (name bytes : ByteArray) (w : World) : Calls Tryz.prog 26 #[.pointer none, .string name, .string bytes] w fun e w' => ∃ v, e = .returned v ∧ Er w' w.heap.size v 1 name ∧ Below w.heap.size w w' := by
  have hmf : ∀ (fn : Fn) (first cap : Array Value) (w : World), (Instr.makeFunc fn first cap).run Tryz.prog w = .ok (.func fn first cap) w := fun _ _ _ _ => rfl
  go_enter Tryz.func26, Tryz.ntmps26
  go_wp2_with (fail)
  refine (able_nil name _).mono ?_
  rintro e w1 ⟨rfl, rfl⟩
  have hA : Below w.heap.size w (((w.alloc (Obj.cells #[Value.pointer none] 40)).alloc (Obj.cells #[Value.string name] 9)).alloc (Obj.cells #[Value.string bytes] 9)) := (((Below.refl _ _).alloc (Nat.le_refl _) _).alloc (by simp) _).alloc (by simp <;> omega) _
  have a4 : (((w.alloc (Obj.cells #[Value.pointer none] 40)).alloc (Obj.cells #[Value.string name] 9)).alloc (Obj.cells #[Value.string bytes] 9)).cell? ⟨w.heap.size + 1, 0, none⟩ = some (.string name) := by go_simp
  go_wp2_with (fail)
  refine (fault_calls 1 name _).mono ?_
  rintro e w2 ⟨g, rfl, hg, hF, hb⟩
  go_wp2_with (fail)
  go_ret
  exact ⟨_, rfl, Er.of (w1 := w2) (by decide) (by have := hA.size; omega) hF, below_step hA hb⟩
set_option maxHeartbeats 16000000 in
set_option maxRecDepth 100000 in
theorem append_calls (p b : Nat) (s : St) (name bytes : ByteArray) (w : World) (h : DK w p b s) (hn : name.size ≤ 140737488351232) (hb : bytes.size ≤ 140737488351232) : Calls Tryz.prog 26 #[.pointer (some ⟨p, 0, none⟩), .string name, .string bytes] w fun e w' => ∃ v, e = .returned v ∧ Er w' w.heap.size v (appendF s name bytes).2 name ∧ DK w' p b (appendF s name bytes).1 ∧ Kp p b w w' := by
  have hmf : ∀ (fn : Fn) (first cap : Array Value) (w : World), (Instr.makeFunc fn first cap).run Tryz.prog w = .ok (.func fn first cap) w := fun _ _ _ _ => rfl
  have hA : Below w.heap.size w (((w.alloc (Obj.cells #[Value.pointer (some ⟨p, 0, none⟩)] 40)).alloc (Obj.cells #[Value.string name] 9)).alloc (Obj.cells #[Value.string bytes] 9)) := (((Below.refl _ _).alloc (Nat.le_refl _) _).alloc (by simp) _).alloc (by simp <;> omega) _
  have a3 : (((w.alloc (Obj.cells #[Value.pointer (some ⟨p, 0, none⟩)] 40)).alloc (Obj.cells #[Value.string name] 9)).alloc (Obj.cells #[Value.string bytes] 9)).cell? ⟨w.heap.size, 0, none⟩ = some (.pointer (some ⟨p, 0, none⟩)) := by go_simp
  have a4 : (((w.alloc (Obj.cells #[Value.pointer (some ⟨p, 0, none⟩)] 40)).alloc (Obj.cells #[Value.string name] 9)).alloc (Obj.cells #[Value.string bytes] 9)).cell? ⟨w.heap.size + 1, 0, none⟩ = some (.string name) := by go_simp
  have a5 : (((w.alloc (Obj.cells #[Value.pointer (some ⟨p, 0, none⟩)] 40)).alloc (Obj.cells #[Value.string name] 9)).alloc (Obj.cells #[Value.string bytes] 9)).cell? ⟨w.heap.size + 1 + 1, 0, none⟩ = some (.string bytes) := by go_simp
  have HD := Aside0.mk (h.below hA)
  have hp := h.lt
  have hpb := h.ltb
  have hsz := lk_size h.2.2.2.2 name
  have hlook := HD.out.2.1.look name (by unfold maxLen; omega)
  obtain ⟨c0, c1, c2, c3, cf⟩ := HD.out.c
  have hzA : w.heap.size ≤ (((w.alloc (Obj.cells #[Value.pointer (some ⟨p, 0, none⟩)] 40)).alloc (Obj.cells #[Value.string name] 9)).alloc (Obj.cells #[Value.string bytes] 9)).heap.size := hA.size
  have HAB := Aside0.mk hA
  clear h hA
  by_cases h0 : ableC s name = 0
  · obtain ⟨k1, k2, k3⟩ := ableC_zero h0
    have HAC := able_calls p b s name _ HD.out
    rw [h0] at HAC
    have hlkN : ∀ q, (Instr.lookup 82 (.map (some b)) (.string name) false).run Tryz.prog ((((w.alloc (Obj.cells #[Value.pointer (some ⟨p, 0, none⟩)] 40)).alloc (Obj.cells #[Value.string name] 9)).alloc (Obj.cells #[Value.string bytes] 9)).drewN q) = .ok (.string (lkD s.L name)) ((((w.alloc (Obj.cells #[Value.pointer (some ⟨p, 0, none⟩)] 40)).alloc (Obj.cells #[Value.string name] 9)).alloc (Obj.cells #[Value.string bytes] 9)).drewN q) := fun q => (HD.out.drew q).2.1.look name (by unfold maxLen; omega)
    have HRM := fun q => room_calls p b s name ((lkD s.L name).size + bytes.size) _ (HD.out.drew q) (by unfold maxLen; omega)
    rw [Int.natCast_add] at HRM
    have q1 : ((lkD s.L name).size : Int) + (bytes.size : Int) ≤ 9223372036854775807 := by omega
    cases hr : roomB s name ((lkD s.L name).size + bytes.size)
    · have he : appendF s name bytes = (s, 4) := by unfold appendF; rw [if_neg (by omega), hr]; rfl
      rw [he]
      rw [hr] at HRM
      go_enter Tryz.func26, Tryz.ntmps26
      go_wp2_with (fail)
      refine HAC.mono ?_
      rintro e w1 ⟨rfl, rfl⟩
      go_wp2_with (fail)
      go_quiet (first | (go_at_call 59; refine Calls.quiet_of_same (HRM _)))
      go_wp2_with (fail)
      refine (fault_calls 4 name _).mono ?_
      rintro e w2 ⟨g, rfl, hg, hF, hb2⟩
      have hb3 := below_step (w := w) (pw_below_drewN HAB.out nq) hb2
      go_wp2_with (fail)
      go_ret
      exact ⟨_, rfl, Er.of (w1 := w2) (by decide) (Nat.le_trans hzA hg) hF, (HD.out.drew nq).below hb2, Kp.of hb3⟩
    · obtain ⟨c, hcc, he⟩ : ∃ c : Nat, Aside0 (((addF s name bytes).2 = true → c = 0) ∧ ((addF s name bytes).2 = false → c = 5)) ∧ appendF s name bytes = ((addF s name bytes).1, c) := by
        refine ⟨if (addF s name bytes).2 = true then 0 else 5, ⟨fun h => if_pos h, fun h => if_neg (by rw [h]; decide)⟩, ?_⟩
        unfold appendF
        rw [if_neg (by omega), if_pos hr]
      rw [he]
      rw [hr] at HRM
      have hr1 : (lkD s.L name).size + bytes.size ≤ 16777216 ∧ ((lk s.L name).isSome = true ∨ s.L.length < 65536) := by
        unfold roomB at hr
        simpa using hr
      go_enter Tryz.func26, Tryz.ntmps26
      go_wp2_with (fail)
      refine HAC.mono ?_
      rintro e w1 ⟨rfl, rfl⟩
      go_wp2_with (fail)
      go_quiet (first | (go_at_call 59; refine Calls.quiet_of_same (HRM _)))
      go_wp2_with (fail)
      refine (powered_calls p b (addF s name bytes).1 (addF s name bytes).2 name 61 _ _ enters45 (by exact Nat.lt_of_lt_of_le hp hzA) (by exact Nat.lt_of_lt_of_le hpb hzA) (fun w1 hb1 => appendc_calls p b s name bytes _ _ _ w1 ((HD.out.drew nq).below hb1) (pw_cell_below hb1 (cell_dn a3 nq)) (pw_cell_below hb1 (cell_dn a4 nq)) (pw_cell_below hb1 (cell_dn a5 nq)) k2 hr1.1 hr1.2)).mono ?_
      rintro e w5 ⟨hD5, hK5, ⟨hok, rfl⟩ | ⟨hok, g, rfl, hg, hF⟩⟩
      · have HOK := Aside0.mk hok
        clear hok
        have HD5 := Aside0.mk hD5
        have HK5 := Aside0.mk ((Kp.of (p := p) (b := b) (pw_below_drewN HAB.out nq)).trans hK5)
        clear hD5 hK5
        go_wp2_with (fail)
        go_ret
        exact ⟨_, rfl, .inl ⟨hcc.out.1 HOK.out, rfl⟩, HD5.out, HK5.out⟩
      · have HOK := Aside0.mk hok
        clear hok
        have HD5 := Aside0.mk hD5
        have HK5 := Aside0.mk ((Kp.of (p := p) (b := b) (pw_below_drewN HAB.out nq)).trans hK5)
        clear hD5 hK5
        go_wp2_with (fail)
        go_ret
        exact ⟨_, rfl, by rw [hcc.out.2 HOK.out]; exact Er.of (w1 := w5) (by decide) (Nat.le_trans hzA hg) hF, HD5.out, HK5.out⟩
  · have HAC := able_calls p b s name _ HD.out
    have he : appendF s name bytes = (s, ableC s name) := by unfold appendF; rw [if_pos h0]
    rw [he]
    generalize ableC s name = c at *
    have hc := int_ne h0
    go_enter Tryz.func26, Tryz.ntmps26
    go_wp2_with (fail)
    refine HAC.mono ?_
    rintro e w1 ⟨rfl, rfl⟩
    go_wp2_with (fail)
    refine (fault_calls c name _).mono ?_
    rintro e w2 ⟨g, rfl, hg, hF, hb2⟩
    have hb3 := below_step (w := w) HAB.out hb2
    go_wp2_with (fail)
    go_ret
    exact ⟨_, rfl, Er.of (w1 := w2) (by omega) (Nat.le_trans hzA hg) hF, HD.out.below hb2, Kp.of hb3⟩
end
section
open Go.RowKit Go.Extern.Stop Go.Stop Go.Extern Go.Proofs.YtmceikfbgmcmaaaGreatDoorW.PrintWords Go.Proofs.YtmceikfbgmcmaaaGreatDoorW.PrintLast Go.Proofs.YtmceikfbgmcmaaaGreatDoorW.PrintMore
set_option linter.unusedSimpArgs false
theorem take_ok {L : FS} (h : Okf L) (k : ByteArray) : Okf (take L k) := ⟨take_ris _ _ h.1, by have := take_len L k; have := h.2.1; omega, fun q hq => h.2.2 q (mem_take _ _ _ hq)⟩
set_option maxHeartbeats 16000000 in
set_option maxRecDepth 100000 in
theorem remcc_calls (p b : Nat) (s : St) (g3 g4 : Nat) (name : ByteArray) (w : World) (h : DK w p b s) (c3 : w.cell? ⟨g3, 0, none⟩ = some (.pointer (some ⟨p, 0, none⟩))) (c4 : w.cell? ⟨g4, 0, none⟩ = some (.string name)) (hname : name.size ≤ 128) :
    Calls Tryz.prog 84 #[.pointer (some ⟨g3, 0, none⟩), .pointer (some ⟨g4, 0, none⟩)] w fun e w' => e = .returned (.tuple #[]) ∧ DK w' p b { s with L := take s.L name } ∧ ∃ q, (w.drewN q).mapTurned w' b := by
  obtain ⟨e0, e1, e2, e3, ef⟩ := h.c
  obtain ⟨w2, hst, hM2, ht2⟩ := (h.drew 1).2.1.drop h.2.2.1 name (by unfold maxLen; omega) 0
  have HD := Aside0.mk ((h.drew 1).turned ht2 hM2 (take_ok h.2.2 name))
  have HT := Aside0.mk ht2
  clear h hM2 ht2
  change (Builtin.delete_ #[82, 9] 0 #[.map (some b), .string name]).run Tryz.prog w.drew = .ok (.tuple #[]) w2 at hst
  go_enter Tryz.func84, Tryz.ntmps84
  go_wp2_with (fail)
  go_region
  go_end0
  exact ⟨rfl, HD.out, 1, HT.out⟩
theorem enters55 : ∀ args w, (callFunc 84 args).run Tryz.prog w = .ok (.enter 84 args) w := enters_of Tryz.func84 (by kernel_rfl) rfl
theorem enters54 : ∀ args w, (callFunc 83 args).run Tryz.prog w = .ok (.enter 83 args) w := enters_of Tryz.func83 (by kernel_rfl) rfl
def removeF (s : St) (name : ByteArray) : St × Nat :=
  if thereC s name ≠ 0 then (s, thereC s name)
  else if rawOk s then ({ s with L := take s.L name, cnt := wrap64 (s.cnt + 1) }, 0)
  else ({ s with dead := true }, 5)
set_option maxHeartbeats 16000000 in
set_option maxRecDepth 100000 in
theorem remc_calls (p b : Nat) (s : St) (g3 g4 : Nat) (name : ByteArray) (w : World) (h : DK w p b s) (hg : g3 ≠ p ∧ g4 ≠ p) (c3 : w.cell? ⟨g3, 0, none⟩ = some (.pointer (some ⟨p, 0, none⟩))) (c4 : w.cell? ⟨g4, 0, none⟩ = some (.string name)) (hname : name.size ≤ 128) :
    Calls Tryz.prog 83 #[.pointer (some ⟨g3, 0, none⟩), .pointer (some ⟨g4, 0, none⟩)] w fun e w' => ((rawOk s ∧ e = .returned (.tuple #[]) ∧ DK w' p b { s with L := take s.L name, cnt := wrap64 (s.cnt + 1) }) ∨ (¬ rawOk s ∧ e = .panicked [lostE] ∧ DK w' p b { s with dead := true })) ∧ Kp p b w w' := by
  have hmf : ∀ (fn : Fn) (first cap : Array Value) (w : World), (Instr.makeFunc fn first cap).run Tryz.prog w = .ok (.func fn first cap) w := fun _ _ _ _ => rfl
  have HD := Aside0.mk h
  clear h
  by_cases hraw : rawOk s
  · have HC : Aside0 (Calls Tryz.prog 68 #[.pointer (some ⟨p, 0, none⟩), .func (.func 84) #[] #[.pointer (some ⟨g3, 0, none⟩), .pointer (some ⟨g4, 0, none⟩)]] w fun e w' => e = .returned (.tuple #[]) ∧ DK w' p b { s with L := take s.L name, cnt := wrap64 (s.cnt + 1) } ∧ Kp p b w w') := ⟨by
      refine raw_ok p b s 84 _ (fun w' => DK w' p b { s with L := take s.L name, cnt := wrap64 (s.cnt + 1) } ∧ Kp p b w w') w enters55 HD.out hraw (fun q => ?_)
      have ne : ∀ {g : Nat} {v : Value}, g ≠ p → ((w.drewN q).setCell ⟨p, 2, none⟩ v).cell? ⟨g, 0, none⟩ = w.cell? ⟨g, 0, none⟩ := fun {g v} hgp => World.cell?_setCell_other _ _ _ _ (fun e => by injection e with e; exact hgp e.symm)
      refine (remcc_calls p b { s with cnt := wrap64 (s.cnt + 1) } g3 g4 name _ ((HD.out.drew q).setCnt _) (by rw [ne hg.1]; exact c3) (by rw [ne hg.2]; exact c4) hname).mono ?_
      rintro e w' ⟨rfl, hD, q2, ht⟩
      exact ⟨rfl, hD, ((((Kp.refl p b w).drew q).set _).drew q2).turned ht⟩⟩
    go_enter Tryz.func83, Tryz.ntmps83
    go_wp2_with (fail)
    refine HC.out.mono ?_
    rintro e w1 ⟨rfl, hD1, hK1⟩
    go_wp2_with (fail)
    go_end0
    exact ⟨.inl ⟨hraw, rfl, hD1⟩, hK1⟩
  · have h01 : 0 ≤ s.cut ∧ s.cut ≤ s.cnt := Decidable.not_not.1 hraw
    have HRW := Aside0.mk hraw
    clear hraw
    go_enter Tryz.func83, Tryz.ntmps83
    go_wp2_with (fail)
    refine (raw_no p b s _ _ HD.out h01.1 h01.2).mono ?_
    rintro e w1 ⟨rfl, hD1, hK1⟩
    go_wp2_with (fail)
    exact ⟨rfl, .inr ⟨HRW.out, rfl, hD1⟩, hK1⟩
set_option maxHeartbeats 8000000 in
set_option maxRecDepth 100000 in
theorem remove_nil (name : ByteArray) (w : World) : Calls Tryz.prog 43 #[.pointer none, .string name] w fun e w' => ∃ v, e = .returned v ∧ Er w' w.heap.size v 1 name ∧ Below w.heap.size w w' := by
  go_enter Tryz.func43, Tryz.ntmps43
  go_wp2_with (fail)
  refine (there_nil name _).mono ?_
  rintro e w1 ⟨rfl, rfl⟩
  have hA : Below w.heap.size w ((w.alloc (Obj.cells #[Value.pointer none] 40)).alloc (Obj.cells #[Value.string name] 9)) := ((Below.refl _ _).alloc (Nat.le_refl _) _).alloc (by simp) _
  have a4 : ((w.alloc (Obj.cells #[Value.pointer none] 40)).alloc (Obj.cells #[Value.string name] 9)).cell? ⟨w.heap.size + 1, 0, none⟩ = some (.string name) := by go_simp
  go_wp2_with (fail)
  refine (fault_calls 1 name _).mono ?_
  rintro e w2 ⟨g, rfl, hg, hF, hb⟩
  go_wp2_with (fail)
  go_ret
  exact ⟨_, rfl, Er.of (w1 := w2) (by decide) (by have := hA.size; omega) hF, below_step hA hb⟩
set_option maxHeartbeats 16000000 in
set_option maxRecDepth 100000 in
theorem remove_calls (p b : Nat) (s : St) (name : ByteArray) (w : World) (h : DK w p b s) (hn : name.size ≤ 140737488351232) : Calls Tryz.prog 43 #[.pointer (some ⟨p, 0, none⟩), .string name] w fun e w' => ∃ v, e = .returned v ∧ Er w' w.heap.size v (removeF s name).2 name ∧ DK w' p b (removeF s name).1 ∧ Kp p b w w' := by
  have hmf : ∀ (fn : Fn) (first cap : Array Value) (w : World), (Instr.makeFunc fn first cap).run Tryz.prog w = .ok (.func fn first cap) w := fun _ _ _ _ => rfl
  have hA : Below w.heap.size w ((w.alloc (Obj.cells #[Value.pointer (some ⟨p, 0, none⟩)] 40)).alloc (Obj.cells #[Value.string name] 9)) := ((Below.refl _ _).alloc (Nat.le_refl _) _).alloc (by simp) _
  have a3 : ((w.alloc (Obj.cells #[Value.pointer (some ⟨p, 0, none⟩)] 40)).alloc (Obj.cells #[Value.string name] 9)).cell? ⟨w.heap.size, 0, none⟩ = some (.pointer (some ⟨p, 0, none⟩)) := by go_simp
  have a4 : ((w.alloc (Obj.cells #[Value.pointer (some ⟨p, 0, none⟩)] 40)).alloc (Obj.cells #[Value.string name] 9)).cell? ⟨w.heap.size + 1, 0, none⟩ = some (.string name) := by go_simp
  have HD := Aside0.mk (h.below hA)
  have hp := h.lt
  have hpb := h.ltb
  have hzA := hA.size
  have HAB := Aside0.mk hA
  have HTC := there_calls p b s name _ HD.out (by unfold maxLen; omega)
  clear h hA
  by_cases h0 : thereC s name = 0
  · have k2 : name.size ≤ 128 := by
      have : ableC s name = 0 := by
        unfold thereC at h0
        split at h0
        · omega
        · omega
      exact (ableC_zero this).2.1
    rw [h0] at HTC
    obtain ⟨c, s', hcc, he⟩ : ∃ (c : Nat) (s' : St), Aside0 ((rawOk s ∧ c = 0 ∧ s' = { s with L := take s.L name, cnt := wrap64 (s.cnt + 1) }) ∨ (¬ rawOk s ∧ c = 5 ∧ s' = { s with dead := true })) ∧ removeF s name = (s', c) := by
      unfold removeF
      rw [if_neg (by omega)]
      by_cases hr : rawOk s
      · rw [if_pos hr]; exact ⟨_, _, ⟨.inl ⟨hr, rfl, rfl⟩⟩, rfl⟩
      · rw [if_neg hr]; exact ⟨_, _, ⟨.inr ⟨hr, rfl, rfl⟩⟩, rfl⟩
    rw [he]
    go_enter Tryz.func43, Tryz.ntmps43
    go_wp2_with (fail)
    refine HTC.mono ?_
    rintro e w1 ⟨rfl, rfl⟩
    go_wp2_with (fail)
    refine (powered_calls p b s' (decide (rawOk s)) name 83 _ _ enters54 (by exact Nat.lt_of_lt_of_le hp hzA) (by exact Nat.lt_of_lt_of_le hpb hzA) (fun w1 hb1 => (remc_calls p b s _ _ name w1 (HD.out.below hb1) ⟨by omega, by omega⟩ (pw_cell_below hb1 a3) (pw_cell_below hb1 a4) k2).mono (by
      rintro e w' ⟨⟨hr, rfl, hD⟩ | ⟨hr, rfl, hD⟩, hK⟩
      · rcases hcc.out with ⟨_, _, rfl⟩ | ⟨hr2, _⟩
        · exact ⟨.inl ⟨decide_eq_true hr, rfl⟩, hD, hK⟩
        · exact absurd hr hr2
      · rcases hcc.out with ⟨hr2, _⟩ | ⟨_, _, rfl⟩
        · exact absurd hr2 hr
        · exact ⟨.inr ⟨decide_eq_false hr, rfl⟩, hD, hK⟩))).mono ?_
    rintro e w5 ⟨hD5, hK5, ⟨hok, rfl⟩ | ⟨hok, g, rfl, hg, hF⟩⟩
    · have HC0 : Aside0 (c = 0) := ⟨by
        rcases hcc.out with ⟨_, h, _⟩ | ⟨hr2, _⟩
        · exact h
        · exact absurd (of_decide_eq_true hok) hr2⟩
      have HD5 := Aside0.mk hD5
      have HK5 := Aside0.mk ((Kp.of (p := p) (b := b) HAB.out).trans hK5)
      clear hD5 hK5 hok
      go_wp2_with (fail)
      go_ret
      exact ⟨_, rfl, .inl ⟨HC0.out, rfl⟩, HD5.out, HK5.out⟩
    · have HC0 : Aside0 (c = 5) := ⟨by
        rcases hcc.out with ⟨hr2, _⟩ | ⟨_, h, _⟩
        · exact absurd hr2 (of_decide_eq_false hok)
        · exact h⟩
      have HD5 := Aside0.mk hD5
      have HK5 := Aside0.mk ((Kp.of (p := p) (b := b) HAB.out).trans hK5)
      clear hD5 hK5 hok
      go_wp2_with (fail)
      go_ret
      exact ⟨_, rfl, by rw [HC0.out]; exact Er.of (w1 := w5) (by decide) (Nat.le_trans hzA hg) hF, HD5.out, HK5.out⟩
  · have he : removeF s name = (s, thereC s name) := by unfold removeF; rw [if_pos h0]
    rw [he]
    generalize thereC s name = c at *
    have hc := int_ne h0
    go_enter Tryz.func43, Tryz.ntmps43
    go_wp2_with (fail)
    refine HTC.mono ?_
    rintro e w1 ⟨rfl, rfl⟩
    go_wp2_with (fail)
    refine (fault_calls c name _).mono ?_
    rintro e w2 ⟨g, rfl, hg, hF, hb2⟩
    have hb3 := below_step (w := w) HAB.out hb2
    go_wp2_with (fail)
    go_ret
    exact ⟨_, rfl, Er.of (w1 := w2) (by omega) (Nat.le_trans hzA hg) hF, HD.out.below hb2, Kp.of hb3⟩
end
section
open Go.RowKit Go.Extern.Stop Go.Stop Go.Extern Go.Proofs.YtmceikfbgmcmaaaGreatDoorW.PrintWords Go.Proofs.YtmceikfbgmcmaaaGreatDoorW.PrintLast Go.Proofs.YtmceikfbgmcmaaaGreatDoorW.PrintMore
set_option linter.unusedSimpArgs false
theorem FC.kept {w w1 : World} {e c p b : Nat} {name : ByteArray} (h : FC w e c name) (hk : Kp p b w w1) (h1 : e ≠ p) (h2 : e ≠ b) : FC w1 e c name := by
  have hl := h.lt
  have ne : ∀ o, w1.cell? ⟨e, o, none⟩ = w.cell? ⟨e, o, none⟩ := fun o => hk.cell hl h1 h2
  exact ⟨(ne 0).trans h.1, (ne 1).trans h.2.1, (ne 2).trans h.2.2.1, (ne 3).trans h.2.2.2⟩
theorem Er.kept {w w1 : World} {lo c p b : Nat} {v : Value} {name : ByteArray} (h : Er w lo v c name) (hk : Kp p b w w1) (h1 : p < lo) (h2 : b < lo) : Er w1 lo v c name := by
  rcases h with h | ⟨hc, g, rfl, hg, hl, hF⟩
  · exact .inl h
  · exact .inr ⟨hc, g, rfl, hg, Nat.lt_of_lt_of_le hl hk.size, hF.kept hk (by omega) (by omega)⟩
theorem Er.below {w w1 : World} {lo c : Nat} {v : Value} {name : ByteArray} (h : Er w lo v c name) (hb : Below w.heap.size w w1) : Er w1 lo v c name := by
  rcases h with h | ⟨hc, g, rfl, hg, hl, hF⟩
  · exact .inl h
  · exact .inr ⟨hc, g, rfl, hg, Nat.lt_of_lt_of_le hl hb.size, hF.below hb⟩
/-- The test of an error that is as it is told. -/
theorem isE_calls (w : World) (lo c : Nat) (v : Value) (name : ByteArray) (h : Er w lo v c name) (hG : GE w) (hc : c < 100) (hn : name.size ≤ 140737488351232) :
    Calls Tryz.prog 10 #[v, .int .i64 c, .string name, .int .i64 (-1)] w fun ev w' => ev = .returned (.bool true) ∧ Below w.heap.size w w' := by
  rcases h with ⟨rfl, rfl⟩ | ⟨h0, g, rfl, _, _, hF⟩
  · refine (isNo_calls w name (-1)).mono ?_
    rintro e w' ⟨rfl, rfl⟩
    exact ⟨rfl, Below.refl _ _⟩
  · exact is_ok g c name w hF hG h0 hc hn
abbrev sA : ByteArray := ⟨#[97]⟩
abbrev sB : ByteArray := ⟨#[98]⟩
abbrev sX : ByteArray := ⟨#[48, 49, 50, 51, 52, 53, 54, 55, 56, 57, 48, 49, 50, 51, 52, 53, 54, 55, 56, 57, 48, 49, 50, 51, 52, 53, 54, 55, 56, 57, 48, 49, 50, 51, 52, 53, 54, 55, 56, 57]⟩
theorem alive_app : appendF ⟨[], 1, 0, false⟩ sA sX = (⟨lay [] sA (lkD [] sA ++ sX.extract 0 32), 1, 1, true⟩, 5) := by
  have h1 : addF ⟨[], 1, 0, false⟩ sA sX = (⟨lay [] sA (lkD [] sA ++ sX.extract 0 32), 1, 1, true⟩, false) := by
    have hw : wrap64 (0 + 1) = 1 := by unfold wrap64; omega
    have hp : pieceS ⟨[], 1, 0, false⟩ sA (sX.extract 0 32) = ⟨lay [] sA (lkD [] sA ++ sX.extract 0 32), 1, 1, false⟩ := by
      unfold pieceS
      rw [hw]
    rw [addF, if_pos (by decide), if_neg (by decide), hp, addF, if_neg (by decide)]
  unfold appendF
  rw [h1]
  rfl
end
end Go.Proofs.YtmceikfbgmcmaaaGreatDoor.D

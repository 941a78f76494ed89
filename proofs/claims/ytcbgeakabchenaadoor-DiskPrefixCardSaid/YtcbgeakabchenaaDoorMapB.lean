/- A map of texts that has the files of a list. -/
import Derived.Test.YtcbgeakabchenaaDoorFSP
import Derived.Test.YtcbgeakabchenaaDoorErrD
import Derived.Maps.StringElems
import Derived.Maps.OwnSet
import Derived.StringKeys
namespace Go.Proofs.YtcbgeakabchenaaDoor.D
open Go.RowKit Go.Extern.Stop Go.Stop Go.Extern Go.Proofs.YtcbgeakabchenaaDoorW.PrintWords Go.Proofs.YtcbgeakabchenaaDoorW.PrintLast Go.Proofs.YtcbgeakabchenaaDoorW.PrintMore
set_option linter.unusedVariables false
set_option linter.unusedSimpArgs false
open Go.Maps Go.WideElems Go.WideMaps
noncomputable abbrev RE : Value → Option (DataW Unit × List MemPlace) := plainElem (H := Unit) Tryd.prog 9
/-- The datum has what the list has. -/
def Agr (L : FS) (M : DataW Unit) : Prop := ∀ (k : ByteArray) (z : DataW Unit), M.atKey (.string k.data.toList) z = match lk L k with | some v => .lit (.string v.data.toList) | none => z
/-- Block b is a map that has the files L. -/
def MapIs (w : World) (b : Nat) (L : FS) : Prop := ∃ M : DataW Unit, w.ownsMap Tryd.prog 9 RE b L.length M ∧ Agr L M ∧ Maps.size M = L.length
theorem KS : Maps.Keyed Tryd.prog 9 := string_keyed Tryd.underlying9
theorem zero9 (w : World) : (zeroValue 9).run Tryd.prog w = .ok (.string ⟨#[]⟩) w := by kernel_rfl
theorem RE_str {v : Value} {s : ByteArray} {ps : List MemPlace} (h : RE v = some (.lit (.string s.data.toList), ps)) : v = .string s := by
  obtain ⟨s', rfl, hz, _⟩ := plainElem_string_inv Tryd.underlying9 h
  simp only [Prod.mk.injEq, DataW.lit.injEq, Lit.string.injEq] at hz
  rw [tl_inj (a := s') (b := s) hz.1.symm]
theorem agr_lk {L : FS} {M : DataW Unit} (h : Agr L M) (k : ByteArray) : M.atKey (.string k.data.toList) (.lit (.string [])) = .lit (.string (lkD L k).data.toList) := by
  rw [h k]
  unfold lkD
  cases lk L k <;> rfl
theorem agr_has {L : FS} {M : DataW Unit} (h : Agr L M) (k : ByteArray) : Maps.has M (.string k.data.toList) = (lk L k).isSome := by
  have hk := h k
  cases hl : lk L k with
  | none =>
    rw [hl] at hk
    exact Maps.has_false_of_atKey hk
  | some v =>
    rw [hl] at hk
    exact Maps.has_true_of_atKey hk
theorem MapIs.look {w : World} {b : Nat} {L : FS} (h : MapIs w b L) (k : ByteArray) (hk : k.size ≤ maxLen) : (Instr.lookup 38 (.map (some b)) (.string k) false).run Tryd.prog w = .ok (.string (lkD L k)) w := by
  obtain ⟨M, ho, ha, _⟩ := h
  obtain ⟨v, ps, hrun, hv⟩ := ho.lookup KS Tryd.underlying38 (zero9 w) (plainElem_string (H := Unit) Tryd.underlying9 (s := ⟨#[]⟩) (Nat.zero_le _)) (keyOf_string_mk Tryd.underlying9 hk)
  rw [hrun]
  have e := agr_lk ha k
  have hv' : RE v = some (.lit (.string (lkD L k).data.toList), ps) := by rw [← e]; exact hv
  rw [RE_str hv']
theorem MapIs.look_ok {w : World} {b : Nat} {L : FS} (h : MapIs w b L) (k : ByteArray) (hk : k.size ≤ maxLen) : (Instr.lookup 38 (.map (some b)) (.string k) true).run Tryd.prog w = .ok (.tuple #[.string (lkD L k), .bool (lk L k).isSome]) w := by
  obtain ⟨M, ho, ha, _⟩ := h
  obtain ⟨v, ps, hrun, hv⟩ := ho.look_ok KS Tryd.underlying38 (zero9 w) (plainElem_string (H := Unit) Tryd.underlying9 (s := ⟨#[]⟩) (Nat.zero_le _)) (keyOf_string_mk Tryd.underlying9 hk)
  rw [hrun, agr_has ha]
  have e := agr_lk ha k
  have hv' : RE v = some (.lit (.string (lkD L k).data.toList), ps) := by rw [← e]; exact hv
  rw [RE_str hv']
theorem MapIs.len {w : World} {b : Nat} {L : FS} (h : MapIs w b L) (ty : TypeId) : (Builtin.len_ #[38] ty #[.map (some b)]).run Tryd.prog w = .ok (.int .i64 L.length) w := by
  obtain ⟨M, ho, ha, hs⟩ := h
  rw [ho.len Tryd.underlying38 ty, hs]
theorem MapIs.put {w : World} {b : Nat} {L : FS} (h : MapIs w b L) (hr : Ris L) (hl : L.length < maxLen) (k v : ByteArray) (hk : k.size ≤ maxLen) (hv : v.size ≤ maxLen) :
    ∃ w', (Instr.mapUpdate 38 (.map (some b)) (.string k) (.string v)).run Tryd.prog w = .ok () w' ∧ MapIs w' b (lay L k v) ∧ w.mapTurned w' b := by
  obtain ⟨M, ho, ha, hs⟩ := h
  obtain ⟨w', hrun, ho', ht⟩ := ho.store KS Tryd.underlying38 hl (keyOf_string_mk Tryd.underlying9 hk) (plainElem_string (H := Unit) Tryd.underlying9 hv)
  have hsz : Maps.size (M.put (.string k.data.toList) (.lit (.string v.data.toList))) = (lay L k v).length := by
    rw [Maps.size_put (ho.tidy KS), lay_len L k v hr, agr_has ha, hs]
  refine ⟨w', hrun, ⟨_, ?_, ?_, hsz⟩, ht⟩
  · obtain ⟨es, clock, h1, h2, h3, h4⟩ := ho'
    refine ⟨es, clock, h1, h2, ?_, h4⟩
    rw [← hsz, h4]
    simp [Maps.size, length_sorted]
  · intro j z
    by_cases e : j = k
    · subst e
      rw [Maps.atKey_put_same ho.isMap (show WideAt.IsKeyLit (.string j.data.toList) from trivial), lk_lay_same]
    · rw [Maps.atKey_put_other (fun h => e (tl_inj (by injection h))), lk_lay_other L k v j e]
      exact ha j z
theorem MapIs.drop {w : World} {b : Nat} {L : FS} (h : MapIs w b L) (hr : Ris L) (k : ByteArray) (hk : k.size ≤ maxLen) (ty : TypeId) :
    ∃ w', (Builtin.delete_ #[38, 9] ty #[.map (some b), .string k]).run Tryd.prog w = .ok (.tuple #[]) w' ∧ MapIs w' b (take L k) ∧ w.mapTurned w' b := by
  obtain ⟨M, ho, ha, hs⟩ := h
  obtain ⟨w', hrun, ho', ht⟩ := ho.drop KS Tryd.underlying38 (keyOf_string_mk Tryd.underlying9 hk) ty
  have hsz : Maps.size (M.del (.string k.data.toList)) = (take L k).length := by
    have h1 := Maps.size_del (k := .string k.data.toList) (ho.tidy KS)
    have h2 := take_len L k
    rw [agr_has ha, hs] at h1
    omega
  refine ⟨w', hrun, ⟨_, ?_, ?_, hsz⟩, ht⟩
  · obtain ⟨es, clock, h1, h2, h3, h4⟩ := ho'
    refine ⟨es, clock, h1, h2, ?_, h4⟩
    rw [← hsz, h4]
    simp [Maps.size, length_sorted]
  · intro j z
    by_cases e : j = k
    · subst e
      rw [Maps.atKey_del_same, lk_take_same L j hr]
    · rw [Maps.atKey_del_other (fun h => e (tl_inj (by injection h))), lk_take_other L k j e]
      exact ha j z
theorem MapIs.kept {w w' : World} {b : Nat} {L : FS} (h : MapIs w b L) (hb : w'.heap[b]? = w.heap[b]?) : MapIs w' b L := by
  obtain ⟨M, ⟨es, clock, h1, h2, h3, h4⟩, ha, hs⟩ := h
  exact ⟨M, ⟨es, clock, hb.trans h1, h2, h3, h4⟩, ha, hs⟩
theorem MapIs.lt {w : World} {b : Nat} {L : FS} (h : MapIs w b L) : b < w.heap.size := by
  obtain ⟨M, ho, _⟩ := h
  exact ho.lt
theorem mapIs_new (w : World) : MapIs (w.alloc (.map #[] 0)) w.heap.size [] := ⟨.map [], World.ownsMap_made w _ _ _, fun k z => rfl, rfl⟩
end Go.Proofs.YtcbgeakabchenaaDoor.D

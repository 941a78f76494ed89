/- fits; the map of the table. -/
import Derived.Test.YtopcidphlleciaaGreatDoorProE
import Derived.Maps.StringElems
import Derived.Maps.OwnSet
import Derived.StringKeys
import Derived.Maps.AppendAt
namespace Go.Proofs.YtopcidphlleciaaGreatDoor.S
open Go.RowKit Go.Extern.Stop Go.Stop Go.Extern Go.Proofs.YtopcidphlleciaaGreatDoorW.PrintWords Go.Proofs.YtopcidphlleciaaGreatDoorW.PrintLast Go.Proofs.YtopcidphlleciaaGreatDoorW.PrintMore
set_option linter.unusedVariables false
set_option linter.unusedSimpArgs false
open Go.Maps Go.WideElems Go.WideMaps
theorem numO_lt {l : BL} {n : Nat} (h : numO l = some n) : n ≤ 2147483647 := by
  unfold numO at h
  split at h
  · rename_i h2
    injection h with h
    omega
  · cases h
set_option maxHeartbeats 8000000 in
set_option maxRecDepth 100000 in
theorem fits_calls (k : UInt8) (s : ByteArray) (hs : s.size ≤ 140737488351232) (w : World) (hG : GS w) (hT : GT w) : Calls Tryz.prog 47 #[.int .u8 (k.toNat : Int), .string s] w fun e w' => e = .returned (.bool (fitB k (tl s))) ∧ Below w.heap.size w w' := by
  have HN := number_calls s hs w hG hT
  unfold numV at HN
  unfold fitB
  clear hG hT
  by_cases h1 : k = 73
  · subst h1
    rw [if_pos rfl]
    cases hn : numO (tl s) with
    | none =>
      rw [hn] at HN
      have HN2 := Aside0.mk HN
      clear HN hn
      go_enter Tryz.func47, Tryz.ntmps47
      go_wp2_with (fail)
      refine HN2.out.mono ?_
      rintro e w1 ⟨rfl, hb⟩
      go_wp2_with (fail)
      go_ret
      exact ⟨rfl, hb⟩
    | some n =>
      rw [hn] at HN
      have HN2 : Aside0 (Calls Tryz.prog 61 #[.string s] w fun e w' => e = .returned (.tuple #[.int .i64 (n : Int), .bool true]) ∧ Below w.heap.size w w') := ⟨HN⟩
      clear HN hn
      by_cases h8 : n < 8
      · have h8' : ¬ (8 : Int) ≤ (n : Int) := by omega
        simp only [h8, decide_true]
        clear h8
        go_enter Tryz.func47, Tryz.ntmps47
        go_wp2_with (fail)
        refine HN2.out.mono ?_
        rintro e w1 ⟨rfl, hb⟩
        go_wp2_with (fail)
        go_ret
        exact ⟨rfl, hb⟩
      · have h8' : (8 : Int) ≤ (n : Int) := by omega
        simp only [h8, decide_false]
        clear h8
        go_enter Tryz.func47, Tryz.ntmps47
        go_wp2_with (fail)
        refine HN2.out.mono ?_
        rintro e w1 ⟨rfl, hb⟩
        go_wp2_with (fail)
        go_ret
        exact ⟨rfl, hb⟩
  · have h1' : ((k.toNat : Int) == 73) = false := by
      rw [beq_eq_false_iff_ne]
      exact fun q => h1 (UInt8.toNat_inj.1 (by show k.toNat = 73; omega))
    rw [if_neg h1]
    have HN2 := Aside0.mk HN
    clear HN h1
    by_cases h2 : k = 78
    · subst h2
      rw [if_pos rfl]
      go_enter Tryz.func47, Tryz.ntmps47
      go_wp2_with (fail)
      refine HN2.out.mono ?_
      rintro e w1 ⟨rfl, hb⟩
      go_wp2_with (fail)
      go_ret
      exact ⟨rfl, hb⟩
    · have h2' : ((k.toNat : Int) == 78) = false := by
        rw [beq_eq_false_iff_ne]
        exact fun q => h2 (UInt8.toNat_inj.1 (by show k.toNat = 78; omega))
      rw [if_neg h2]
      clear h2
      go_enter Tryz.func47, Tryz.ntmps47
      go_wp2_with (fail)
      refine HN2.out.mono ?_
      rintro e w1 ⟨rfl, hb⟩
      go_wp2_with (fail)
      go_ret
      exact ⟨rfl, hb⟩
def shV (x : Shp) : Value := .agg #[.string x.1, .int .i64 x.2.1, .bool x.2.2]
def shD (x : Shp) : DataW Unit := .agg [.lit (.string (tl x.1)), .lit (.int .i64 x.2.1), .lit (.bool x.2.2)]
def RSl : List Value → Option (DataW Unit × List MemPlace)
  | [.string k, .int .i64 n, .bool m] => some (shD (k, n, m), [])
  | _ => none
def RS : Value → Option (DataW Unit × List MemPlace)
  | .agg cs => RSl cs.toList
  | _ => none
theorem RS_mk (x : Shp) : RS (shV x) = some (shD x, []) := rfl
theorem shD_inj {x y : Shp} (h : shD x = shD y) : x = y := by
  obtain ⟨a, b, c⟩ := x
  obtain ⟨a', b', c'⟩ := y
  simp only [shD, DataW.agg.injEq, List.cons.injEq, DataW.lit.injEq, Lit.string.injEq, Lit.int.injEq, Lit.bool.injEq, true_and, and_true] at h
  obtain ⟨h1, h2, h3⟩ := h
  rw [tl_inj h1, h2, h3]
theorem RS_inv {v : Value} {x : Shp} {ps : List MemPlace} (h : RS v = some (shD x, ps)) : v = shV x := by
  unfold RS at h
  split at h
  · rename_i cs
    unfold RSl at h
    split at h
    · rename_i k n m e
      injection h with h
      injection h with h _
      rw [← shD_inj h]
      unfold shV
      rw [← Array.toList_inj.1 (show cs.toList = (#[Value.string k, .int .i64 n, .bool m] : Array Value).toList from e)]
    · cases h
  · cases h
/-- The datum has what the table has. -/
def AgrT (L : TB) (M : DataW Unit) : Prop := ∀ (k : ByteArray) (z : DataW Unit), M.atKey (.string (tl k)) z = match lkT L k with | some v => shD v | none => z
/-- Block b is a map that has the table L. -/
def MapT (w : World) (b : Nat) (L : TB) : Prop := ∃ M : DataW Unit, w.ownsMap Tryz.prog 9 RS b L.length M ∧ AgrT L M ∧ Maps.size M = L.length
theorem KT : Maps.Keyed Tryz.prog 9 := string_keyed Tryz.underlying9
theorem zeroS (w : World) : (zeroValue 92).run Tryz.prog w = .ok (shV (⟨#[]⟩, 0, false)) w := by kernel_rfl
theorem agrT_has {L : TB} {M : DataW Unit} (h : AgrT L M) (k : ByteArray) : Maps.has M (.string (tl k)) = (lkT L k).isSome := by
  have hk := h k
  cases hl : lkT L k with
  | none =>
    rw [hl] at hk
    exact Maps.has_false_of_atKey hk
  | some v =>
    rw [hl] at hk
    exact Maps.has_true_of_atKey hk
theorem MapT.look_ok {w : World} {b : Nat} {L : TB} (h : MapT w b L) (k : ByteArray) (hk : k.size ≤ maxLen) : (Instr.lookup 94 (.map (some b)) (.string k) true).run Tryz.prog w = .ok (.tuple #[shV ((lkT L k).getD (⟨#[]⟩, 0, false)), .bool (lkT L k).isSome]) w := by
  obtain ⟨M, ho, ha, _⟩ := h
  obtain ⟨v, ps, hrun, hv⟩ := ho.look_ok KT Tryz.underlying94 (zeroS w) (RS_mk (⟨#[]⟩, 0, false)) (keyOf_string_mk Tryz.underlying9 hk)
  rw [hrun, agrT_has ha]
  have e : M.atKey (.string (tl k)) (shD (⟨#[]⟩, 0, false)) = shD ((lkT L k).getD (⟨#[]⟩, 0, false)) := by rw [ha k]; cases lkT L k <;> rfl
  have hv' : RS v = some (shD ((lkT L k).getD (⟨#[]⟩, 0, false)), ps) := by rw [← e]; exact hv
  rw [RS_inv hv']
theorem lkT_snoc : ∀ (L : TB) (k : ByteArray) (x : Shp) (j : ByteArray), lkT (L ++ [(k, x)]) j = match lkT L j with | some v => some v | none => if k = j then some x else none
  | [], k, x, j => rfl
  | (a, y) :: r, k, x, j => by
    show lkT ((a, y) :: (r ++ [(k, x)])) j = _
    rw [lkT, lkT]
    split
    · rfl
    · exact lkT_snoc r k x j
theorem MapT.put {w : World} {b : Nat} {L : TB} (h : MapT w b L) (hl : L.length < maxLen) (k : ByteArray) (x : Shp) (hk : k.size ≤ maxLen) (hn : lkT L k = none) :
    ∃ w', (Instr.mapUpdate 94 (.map (some b)) (.string k) (shV x)).run Tryz.prog w = .ok () w' ∧ MapT w' b (L ++ [(k, x)]) ∧ w.mapTurned w' b := by
  obtain ⟨M, ho, ha, hs⟩ := h
  obtain ⟨w', hrun, ho', ht⟩ := ho.store KT Tryz.underlying94 hl (keyOf_string_mk Tryz.underlying9 hk) (RS_mk x)
  have hsz : Maps.size (M.put (.string (tl k)) (shD x)) = (L ++ [(k, x)]).length := by
    rw [Maps.size_put (ho.tidy KT), agrT_has ha, hs, hn]
    simp
  refine ⟨w', hrun, ⟨_, ?_, ?_, hsz⟩, ht⟩
  · obtain ⟨es, clock, h1, h2, h3, h4⟩ := ho'
    refine ⟨es, clock, h1, h2, ?_, h4⟩
    rw [← hsz, h4]
    simp [Maps.size, length_sorted]
  · intro j z
    by_cases e : j = k
    · subst e
      rw [Maps.atKey_put_same ho.isMap (show WideAt.IsKeyLit (.string (tl j)) from trivial), lkT_snoc, hn]
      simp
    · rw [Maps.atKey_put_other (fun h => e (tl_inj (by injection h))), lkT_snoc, ha j z]
      cases lkT L j with
      | some v => rfl
      | none => simp only; rw [if_neg (fun q => e q.symm)]
theorem MapT.kept {w w' : World} {b : Nat} {L : TB} (h : MapT w b L) (hb : w'.heap[b]? = w.heap[b]?) : MapT w' b L := by
  obtain ⟨M, ⟨es, clock, h1, h2, h3, h4⟩, ha, hs⟩ := h
  exact ⟨M, ⟨es, clock, hb.trans h1, h2, h3, h4⟩, ha, hs⟩
theorem MapT.lt {w : World} {b : Nat} {L : TB} (h : MapT w b L) : b < w.heap.size := by
  obtain ⟨M, ho, _⟩ := h
  exact ho.lt
theorem mapT_new (w : World) : MapT (w.alloc (.map #[] 0)) w.heap.size [] := ⟨.map [], World.ownsMap_made w _ _ _, fun k z => rfl, rfl⟩
theorem MapT.below {w w1 : World} {b : Nat} {L : TB} (h : MapT w b L) (hb : Below w.heap.size w w1) : MapT w1 b L := h.kept (hb.block b h.lt)
end Go.Proofs.YtopcidphlleciaaGreatDoor.S

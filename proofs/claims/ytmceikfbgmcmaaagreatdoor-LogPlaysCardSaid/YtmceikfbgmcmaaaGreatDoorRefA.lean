/- The list of files as the document lays it. The document's disk in the world. The document's find. Small functions of the document's disk. The document's raw write, and Read. The document's files, one more laid: the plain part. The document's files: a file that is there, laid anew. The document's files: a new file laid. The document's files: a file gone. The document's files: pieces laid behind a file. The document's Remove and Trunc. The document's Append and Put. The document's Names. Both disks: what a call leaves. -/
import Derived.Test.YtmceikfbgmcmaaaGreatDoorDisB
import Derived.Sort.Walk0
import Derived.Maps.AppendAt
import Derived.Test.YtmceikfbgmcmaaaGreatDoorDisA
namespace Go.Proofs.YtmceikfbgmcmaaaGreatDoor.D
open Go.RowKit Go.Extern.Stop Go.Stop Go.Extern Go.Proofs.YtmceikfbgmcmaaaGreatDoorW.PrintWords Go.Proofs.YtmceikfbgmcmaaaGreatDoorW.PrintLast Go.Proofs.YtmceikfbgmcmaaaGreatDoorW.PrintMore
set_option linter.unusedVariables false
set_option linter.unusedSimpArgs false
section
def fi : FS → ByteArray → Nat
  | [], _ => 0
  | (a, _) :: r, k => if tl a < tl k then fi r k + 1 else 0
theorem fi_le : ∀ (L : FS) (k : ByteArray), fi L k ≤ L.length
  | [], _ => Nat.le_refl _
  | (a, x) :: r, k => by
    rw [fi]
    have := fi_le r k
    split
    · simp; omega
    · simp
theorem fi_before : ∀ (L : FS) (k : ByteArray) (j : Nat) (h : j < L.length), j < fi L k → tl L[j].1 < tl k
  | [], _, j, h, _ => absurd h (by simp)
  | (a, x) :: r, k, j, h, hj => by
    rw [fi] at hj
    split at hj
    · rename_i ha
      cases j with
      | zero => exact ha
      | succ j => exact fi_before r k j (by simpa using h) (by omega)
    · omega
theorem fi_at : ∀ (L : FS) (k : ByteArray) (h : fi L k < L.length), ¬ tl (L[fi L k]'h).1 < tl k
  | [], _, h => absurd h (by simp [fi])
  | (a, x) :: r, k, h => by
    by_cases ha : tl a < tl k
    · have e : fi ((a, x) :: r) k = fi r k + 1 := by rw [fi, if_pos ha]
      simp only [e] at h ⊢
      exact fi_at r k (by simpa using h)
    · have e : fi ((a, x) :: r) k = 0 := by rw [fi, if_neg ha]
      simp only [e]
      exact ha
theorem fi_lk : ∀ (L : FS) (k : ByteArray), Ris L → lk L k = match L[fi L k]? with | some p => if p.1 = k then some p.2 else none | none => none
  | [], k, _ => rfl
  | (a, x) :: r, k, h => by
    have h' := List.pairwise_cons.1 h
    by_cases ha : tl a < tl k
    · have e : fi ((a, x) :: r) k = fi r k + 1 := by rw [fi, if_pos ha]
      rw [e, lk, if_neg (fun e => by subst e; exact bl_irrefl _ ha), fi_lk r k h'.2]
      rfl
    · have e : fi ((a, x) :: r) k = 0 := by rw [fi, if_neg ha]
      rw [e, lk]
      show _ = if a = k then some x else none
      by_cases hk : a = k
      · rw [if_pos hk, if_pos hk]
      · rw [if_neg hk, if_neg hk]
        have hlt : tl k < tl a := bl_total ha (fun q => hk (tl_inj q))
        exact lk_none_above (fun p hp => bl_trans hlt (h'.1 p hp))
theorem fi_lay : ∀ (L : FS) (k v : ByteArray), Ris L → lay L k v = if (lk L k).isSome = true then L.set (fi L k) (k, v) else L.take (fi L k) ++ (k, v) :: L.drop (fi L k)
  | [], k, v, _ => rfl
  | (a, x) :: r, k, v, h => by
    have h' := List.pairwise_cons.1 h
    by_cases hk : a = k
    · subst hk
      rw [lay, if_pos rfl, lk, if_pos rfl, fi, if_neg (bl_irrefl _)]
      rfl
    · rw [lay, if_neg hk, lk, if_neg hk]
      by_cases ha : tl k < tl a
      · have hn : ¬ tl a < tl k := fun q => bl_irrefl _ (bl_trans q ha)
        rw [if_pos ha, fi, if_neg hn, lk_none_above (fun p hp => bl_trans ha (h'.1 p hp))]
        rfl
      · have hlt : tl a < tl k := bl_total ha (fun q => hk (tl_inj q).symm)
        rw [if_neg ha, fi, if_pos hlt, fi_lay r k v h'.2]
        split
        · rfl
        · rfl
theorem fi_take : ∀ (L : FS) (k : ByteArray), Ris L → (lk L k).isSome = true → take L k = L.eraseIdx (fi L k)
  | [], k, _, h => by cases h
  | (a, x) :: r, k, h, hs => by
    have h' := List.pairwise_cons.1 h
    by_cases hk : a = k
    · subst hk
      rw [take, if_pos rfl, fi, if_neg (bl_irrefl _)]
      rfl
    · rw [lk, if_neg hk] at hs
      rw [take, if_neg hk]
      have hlt : tl a < tl k := by
        refine Decidable.byContradiction fun hn => ?_
        have hlt : tl k < tl a := bl_total hn (fun q => hk (tl_inj q))
        rw [lk_none_above (fun p hp => bl_trans hlt (h'.1 p hp))] at hs
        cases hs
      rw [fi, if_pos hlt, fi_take r k h'.2 hs]
      rfl
theorem take_none : ∀ (L : FS) (k : ByteArray), lk L k = none → take L k = L
  | [], k, _ => rfl
  | (a, x) :: r, k, h => by
    rw [lk] at h
    split at h
    · cases h
    · rename_i hk
      rw [take, if_neg hk, take_none r k h]
/-- Files as the cells of a row. -/
def flat : FS → List Value
  | [] => []
  | (a, x) :: r => .string a :: .string x :: flat r
theorem flat_len : ∀ L : FS, (flat L).length = L.length * 2
  | [] => rfl
  | (a, x) :: r => by rw [flat, List.length_cons, List.length_cons, flat_len r, List.length_cons]; omega
theorem flat_app : ∀ L K : FS, flat (L ++ K) = flat L ++ flat K
  | [], K => rfl
  | (a, x) :: r, K => by
    show flat ((a, x) :: (r ++ K)) = _
    rw [flat, flat_app r K]
    rfl
theorem flat_name : ∀ (L : FS) (i : Nat) (h : i < L.length), (flat L)[i * 2]? = some (.string L[i].1)
  | [], i, h => absurd h (by simp)
  | (a, x) :: r, 0, h => rfl
  | (a, x) :: r, i + 1, h => by
    rw [flat, show (i + 1) * 2 = i * 2 + 1 + 1 by omega, List.getElem?_cons_succ, List.getElem?_cons_succ]
    exact flat_name r i (by simpa using h)
theorem flat_bytes : ∀ (L : FS) (i : Nat) (h : i < L.length), (flat L)[i * 2 + 1]? = some (.string L[i].2)
  | [], i, h => absurd h (by simp)
  | (a, x) :: r, 0, h => rfl
  | (a, x) :: r, i + 1, h => by
    rw [flat, show (i + 1) * 2 + 1 = i * 2 + 1 + 1 + 1 by omega, List.getElem?_cons_succ, List.getElem?_cons_succ]
    exact flat_bytes r i (by simpa using h)
theorem flat_set : ∀ (L : FS) (i : Nat) (p : ByteArray × ByteArray), flat (L.set i p) = ((flat L).set (i * 2) (.string p.1)).set (i * 2 + 1) (.string p.2)
  | [], i, p => rfl
  | (a, x) :: r, 0, p => rfl
  | (a, x) :: r, i + 1, p => by
    have e1 : (i + 1) * 2 = (i * 2 + 1) + 1 := by omega
    have e2 : (i + 1) * 2 + 1 = (i * 2 + 1 + 1) + 1 := by omega
    rw [e2, e1]
    simp only [List.set_cons_succ, flat, flat_set r i p]
theorem flat_take : ∀ (L : FS) (n : Nat), (flat L).take (n * 2) = flat (L.take n)
  | [], n => by cases n <;> simp [flat]
  | (a, x) :: r, 0 => by simp [flat]
  | (a, x) :: r, n + 1 => by
    rw [flat, show (n + 1) * 2 = n * 2 + 1 + 1 by omega, List.take_succ_cons, List.take_succ_cons, flat_take r n]
    rfl
end
section
/-- v is a slice of these files, in the block g (of no file: g is p). -/
def RF (w : World) (p g : Nat) (v : Value) (L : FS) : Prop := w.ownsRow 0 120 2 v L.length (flat L) ∧ ((v = .slice none 0 0 ∧ g = p) ∨ v.ownBlock = some g)
abbrev cellsR (v : Value) (s : St) : Array Value := #[v, .int .i64 s.cut, .int .i64 s.cnt, .bool s.dead]
/-- The document's disk at p, whose files lie in the block g. -/
def RK (w : World) (p g : Nat) (s : St) : Prop := ∃ v, w.heap[p]? = some (.cells (cellsR v s) 64 (0, 0)) ∧ RF w p g v s.L ∧ Okf s.L
theorem RK.lt {w : World} {p g : Nat} {s : St} (h : RK w p g s) : p < w.heap.size := by
  obtain ⟨v, h1, _⟩ := h
  exact (Array.getElem?_eq_some_iff.1 h1).1
theorem RK.ltg {w : World} {p g : Nat} {s : St} (h : RK w p g s) : g < w.heap.size := by
  have hp := h.lt
  obtain ⟨v, h1, ⟨h2, h3 | h3⟩, _⟩ := h
  · rw [h3.2]; exact hp
  · exact (h2.lt g h3).2
theorem RF.shape {w : World} {p g : Nat} {v : Value} {L : FS} (h : RF w p g v L) : (v = .slice none 0 0 ∧ g = p ∧ L = []) ∨ ∃ cap, v = .slice (some ⟨g, 0, none⟩) L.length cap ∧ L.length ≤ cap ∧ cap ≤ maxLen ∧ (∀ i (hi : i < L.length), w.cell? ⟨g, i * 2, none⟩ = some (.string L[i].1) ∧ w.cell? ⟨g, i * 2 + 1, none⟩ = some (.string L[i].2)) ∧ ∀ o, w.frozen? ⟨g, o, none⟩ = false := by
  obtain ⟨h1, h2⟩ := h
  rcases h1.2 with ⟨hn, hz⟩ | ⟨g', cap, cur, rfl, hb, hg, hnc, hcm, hcs, ht⟩
  · rcases h2 with ⟨_, h2⟩ | h2
    · exact .inl ⟨hn, h2, List.length_eq_zero_iff.1 hz⟩
    · rw [hn] at h2; cases h2
  · rcases h2 with ⟨h2, _⟩ | h2
    · cases h2
    · obtain rfl : g' = g := by injection h2
      refine .inr ⟨cap, rfl, hnc, hcm, fun i hi => ⟨?_, ?_⟩, fun o => h1.frozenAt o⟩
      · rw [h1.cellAt (i * 2) (by omega), flat_name L i hi]
      · rw [h1.cellAt (i * 2 + 1) (by omega), flat_bytes L i hi]
theorem RF.block {w : World} {p g : Nat} {v : Value} {L : FS} (h : RF w p g v L) : (v = .slice none 0 0 ∧ g = p) ∨ ∃ cur, w.heap[g]? = some (.cells cur 120 (0, 0)) := by
  obtain ⟨h1, h2⟩ := h
  rcases h1.2 with ⟨hn, hz⟩ | ⟨g', cap, cur, rfl, hb, hg, hnc, hcm, hcs, ht⟩
  · rcases h2 with h2 | h2
    · exact .inl h2
    · rw [hn] at h2; cases h2
  · rcases h2 with ⟨h2, _⟩ | h2
    · cases h2
    · obtain rfl : g' = g := by injection h2
      exact .inr ⟨cur, hg⟩
theorem RF.kept {w w' : World} {p g : Nat} {v : Value} {L : FS} (h : RF w p g v L) (hb : w'.heap[g]? = w.heap[g]?) : RF w' p g v L := by
  obtain ⟨h1, h2⟩ := h
  refine ⟨⟨h1.1, ?_⟩, h2⟩
  rcases h1.2 with h | ⟨g', cap, cur, rfl, hb', hg, hnc, hcm, hcs, ht⟩
  · exact .inl h
  · rcases h2 with ⟨h2, _⟩ | h2
    · cases h2
    · obtain rfl : g' = g := by injection h2
      exact .inr ⟨g', cap, cur, rfl, hb', hb.trans hg, hnc, hcm, hcs, ht⟩
theorem RK.kept' {w w' : World} {p g : Nat} {s : St} (h : RK w p g s) (h1 : w'.heap[p]? = w.heap[p]?) (h2 : w'.heap[g]? = w.heap[g]?) : RK w' p g s := by
  obtain ⟨v, a, b, c⟩ := h
  exact ⟨v, h1.trans a, b.kept h2, c⟩
theorem RK.below {w w1 : World} {p g : Nat} {s : St} (h : RK w p g s) (hb : Below w.heap.size w w1) : RK w1 p g s := h.kept' (hb.block p h.lt) (hb.block g h.ltg)
theorem RK.kept {w w1 : World} {p g p' g' : Nat} {s : St} (h : RK w p g s) (hk : Kp p' g' w w1) (h1 : p ≠ p') (h2 : p ≠ g') (h3 : g ≠ p') (h4 : g ≠ g') : RK w1 p g s := h.kept' (hk.block p h.lt h1 h2) (hk.block g h.ltg h3 h4)
theorem RK.drew {w : World} {p g : Nat} {s : St} (h : RK w p g s) (n : Nat) : RK (w.drewN n) p g s := h
theorem RK.cells {w : World} {p g : Nat} {s : St} (h : RK w p g s) : ∃ v, RF w p g v s.L ∧ w.cell? ⟨p, 0, none⟩ = some v ∧ w.cell? ⟨p, 1, none⟩ = some (.int .i64 s.cut) ∧ w.cell? ⟨p, 2, none⟩ = some (.int .i64 s.cnt) ∧ w.cell? ⟨p, 3, none⟩ = some (.bool s.dead) ∧ ∀ o, w.frozen? ⟨p, o, none⟩ = false := by
  obtain ⟨v, h1, h2, _⟩ := h
  refine ⟨v, h2, ?_⟩
  simp [World.cell?, World.frozen?, h1]
theorem RK.ne {w : World} {p g : Nat} {s : St} (h : RK w p g s) : g = p ∧ s.L = [] ∨ g ≠ p := by
  obtain ⟨v, h1, h2, _⟩ := h
  rcases h2.shape with ⟨_, h3, h4⟩ | ⟨cap, h6, _⟩
  · exact .inl ⟨h3, h4⟩
  · rcases h2.block with ⟨h5, _⟩ | ⟨cur, hc⟩
    · rw [h5] at h6; cases h6
    · refine .inr ?_
      rintro rfl
      rw [h1] at hc
      injection hc with hc
      injection hc with _ hc
      cases hc
theorem flr_store {w : World} {p g i : Nat} {s : St} {v : Value} (h1 : w.heap[p]? = some (.cells (cellsR v s) 64 (0, 0))) (h2 : RF w p g v s.L) (hi : i ≠ 0) (u : Value) : RF (w.setCell ⟨p, i, none⟩ u) p g v s.L := by
  rcases h2.block with ⟨h5, rfl⟩ | ⟨cur, hc⟩
  · subst h5
    rcases h2.1.2 with ⟨_, hz⟩ | ⟨_, _, _, hv, _⟩
    · exact ⟨⟨h2.1.1, .inl ⟨rfl, hz⟩⟩, .inl ⟨rfl, rfl⟩⟩
    · cases hv
  · refine h2.kept (Below.heap_setCell w ⟨p, i, none⟩ u g ?_)
    show g ≠ p
    rintro rfl
    rw [h1] at hc
    injection hc with hc
    injection hc with _ hc
    cases hc
theorem RK.setDead {w : World} {p g : Nat} {s : St} (h : RK w p g s) (d : Bool) : RK (w.setCell ⟨p, 3, none⟩ (.bool d)) p g { s with dead := d } := by
  obtain ⟨v, h1, h2, h3⟩ := h
  exact ⟨v, by rw [heap_set h1]; rfl, flr_store h1 h2 (by decide) _, h3⟩
theorem RK.setCnt {w : World} {p g : Nat} {s : St} (h : RK w p g s) (n : Int) : RK (w.setCell ⟨p, 2, none⟩ (.int .i64 n)) p g { s with cnt := n } := by
  obtain ⟨v, h1, h2, h3⟩ := h
  exact ⟨v, by rw [heap_set h1]; rfl, flr_store h1 h2 (by decide) _, h3⟩
theorem RK.setCut {w : World} {p g : Nat} {s : St} (h : RK w p g s) (n : Int) : RK (w.setCell ⟨p, 1, none⟩ (.int .i64 n)) p g { s with cut := n } := by
  obtain ⟨v, h1, h2, h3⟩ := h
  exact ⟨v, by rw [heap_set h1]; rfl, flr_store h1 h2 (by decide) _, h3⟩
end
section
theorem bytesLess_tl (a b : ByteArray) : Op.bytesLess a.toList b.toList = decide (tl a < tl b) := by
  rw [bytesLess_eq, ByteArray.toList_eq, ByteArray.toList_eq]
theorem geq_str (a b : ByteArray) (w : World) : (binOp .geq 9 (.string a) (.string b)).run Tryz.prog w = .ok (.bool !(Op.bytesLess a.toList b.toList)) w := by
  simp [go_sem, binOp, Op.stringOp]
set_option maxHeartbeats 16000000 in
set_option maxRecDepth 100000 in
theorem find_calls (p g : Nat) (s : St) (name : ByteArray) (w : World) (h : RK w p g s) : Calls Tryz.prog 96 #[.pointer (some ⟨p, 0, none⟩), .string name] w fun e w' => e = .returned (.tuple #[.int .i64 (fi s.L name), .bool (lk s.L name).isSome]) ∧ ∃ q, w' = w.drewN q := by
  obtain ⟨v, hF, c0, c1, c2, c3, cf⟩ := h.cells
  have hris := (show Okf s.L by obtain ⟨_, _, _, q⟩ := h; exact q).1
  have hlen := (show Okf s.L by obtain ⟨_, _, _, q⟩ := h; exact q).2.1
  clear h c1 c2 c3
  have hfl := fi_lk s.L name hris
  have hfe := fi_le s.L name
  rcases hF.shape with ⟨rfl, rfl, hL⟩ | ⟨cap, rfl, hcap, hcm, hcs, hfz⟩
  · rw [hL] at hfl hlen hfe ⊢
    clear hF hL cf
    go_enter Tryz.func96, Tryz.ntmps96
    go_wp2_with (fail)
    refine wp_loop_rounds 1 ?_
    rw [rounds_succ]
    go_wp2_with (fail)
    go_ret2
    exact ⟨rfl, 0, rfl⟩
  · have HX := Aside0.mk (And.intro hfl (And.intro hfe hris))
    have HC := Aside0.mk hcs
    clear hF hfl hfe hris hcs cf hfz
    go_enter Tryz.func96, Tryz.ntmps96
    go_wp2_with (fail)
    go_loopg [6] s.L.length (fun g v6 w' => ∃ (i : Nat), i ≤ s.L.length ∧ g = s.L.length - i ∧ v6 = .int .i64 i ∧ w' = w ∧ Aside0 (i ≤ fi s.L name))
    case atStart => exact ⟨0, Nat.zero_le _, rfl, rfl, rfl, ⟨Nat.zero_le _⟩⟩
    case round =>
      obtain ⟨i, hi, rfl, rfl, rfl, HI⟩ := hrel
      by_cases h1 : i < s.L.length
      · obtain ⟨k0, _⟩ := HC.out i h1
        have h1' : (i : Int) < (s.L.length : Int) := by omega
        have h0' : (0 : Int) ≤ (i : Int) := by omega
        by_cases h2 : tl s.L[i].1 < tl name
        · have HI2 : Aside0 (i + 1 ≤ fi s.L name) := ⟨by
            have h3 := HI.out
            have h4 := HX.out.2.1
            rcases Nat.lt_or_ge i (fi s.L name) with h5 | h5
            · omega
            · obtain rfl : i = fi s.L name := by omega
              exact absurd h2 (fi_at s.L name h1)⟩
          have hb : Op.bytesLess (s.L[i].1).toList name.toList = true := by rw [bytesLess_tl]; exact decide_eq_true h2
          have hge : ∀ w, (binOp .geq 9 (.string s.L[i].1) (.string name)).run Tryz.prog w = .ok (.bool false) w := fun w => by rw [geq_str, hb]; rfl
          clear h2 hb
          generalize s.L[i].1 = a at *
          go_wp2_with (fail)
          go_roundg (s.L.length - (i + 1))
          case measure => omega
          case rel => exact ⟨i + 1, by omega, rfl, by simp, rfl, HI2⟩
        · have hb : Op.bytesLess (s.L[i].1).toList name.toList = false := by rw [bytesLess_tl]; exact decide_eq_false h2
          have hfi : fi s.L name = i := by
            have h3 := HI.out
            rcases Nat.lt_or_ge i (fi s.L name) with h5 | h5
            · exact absurd (fi_before s.L name i h1 h5) h2
            · omega
          have he : ((s.L[i].1).toList == name.toList) = (lk s.L name).isSome := by
            have hl := HX.out.1
            rw [hfi, List.getElem?_eq_getElem h1] at hl
            rw [hl]
            show _ = Option.isSome (if s.L[i].1 = name then some s.L[i].2 else none)
            by_cases q : s.L[i].1 = name
            · rw [if_pos q, q]; simp
            · rw [if_neg q]
              simp only [Option.isSome_none, beq_eq_false_iff_ne]
              intro q2
              exact q (tl_inj (by rw [ByteArray.toList_eq, ByteArray.toList_eq] at q2; exact q2))
          have HFI := Aside0.mk hfi
          have hge : ∀ w, (binOp .geq 9 (.string s.L[i].1) (.string name)).run Tryz.prog w = .ok (.bool true) w := fun w => by rw [geq_str, hb]; rfl
          clear h2 hfi hb
          generalize hR : (lk s.L name).isSome = r at he
          have HR := Aside0.mk hR
          clear hR
          generalize s.L[i].1 = a at *
          go_wp2_with (fail)
          go_quiet (fail)
          go_wp2_with (fail)
          go_ret2
          exact ⟨by rw [HFI.out, HR.out]; first | rfl | (simp; done), nq, rfl⟩
      · have h1' : ¬ (i : Int) < (s.L.length : Int) := by omega
        have HE : Aside0 (fi s.L name = s.L.length ∧ (lk s.L name).isSome = false) := ⟨by
          have h3 := HI.out
          have h4 := HX.out.2.1
          have h5 : fi s.L name = s.L.length := by omega
          refine ⟨h5, ?_⟩
          rw [HX.out.1, h5, List.getElem?_eq_none (Nat.le_refl _)]
          rfl⟩
        go_wp2_with (fail)
        go_ret2
        exact ⟨by rw [HE.out.1, HE.out.2]; rfl, 0, rfl⟩
end
section
theorem fi_some {L : FS} {k : ByteArray} (hr : Ris L) (h : (lk L k).isSome = true) : ∃ hi : fi L k < L.length, L[fi L k].1 = k ∧ L[fi L k].2 = lkD L k := by
  have e := fi_lk L k hr
  rcases Nat.lt_or_ge (fi L k) L.length with hi | hi
  · refine ⟨hi, ?_⟩
    rw [List.getElem?_eq_getElem hi] at e
    simp only at e
    by_cases hk : L[fi L k].1 = k
    · rw [if_pos hk] at e
      exact ⟨hk, by unfold lkD; rw [e]; rfl⟩
    · rw [if_neg hk] at e
      rw [e] at h
      cases h
  · rw [List.getElem?_eq_none hi] at e
    rw [e] at h
    cases h
theorem lkD_none {L : FS} {k : ByteArray} (h : ¬ (lk L k).isSome = true) : lkD L k = ⟨#[]⟩ := by
  unfold lkD
  cases hl : lk L k with
  | none => rfl
  | some v => rw [hl] at h; exact absurd rfl h
theorem RK.okf {w : World} {p g : Nat} {s : St} (h : RK w p g s) : Okf s.L := by obtain ⟨_, _, _, q⟩ := h; exact q
set_option maxHeartbeats 16000000 in
set_option maxRecDepth 100000 in
theorem rhas_calls (p g : Nat) (s : St) (name : ByteArray) (w : World) (h : RK w p g s) : Calls Tryz.prog 65 #[.pointer (some ⟨p, 0, none⟩), .string name] w fun e w' => e = .returned (.bool ((lk s.L name).isSome && !s.dead)) ∧ ∃ q, w' = w.drewN q := by
  have HF := Aside0.mk (find_calls p g s name w h)
  obtain ⟨v, _, _, c1, c2, c3, cf⟩ := h.cells
  have c3' : ∀ q, (w.drewN q).cell? ⟨p, 3, none⟩ = some (.bool s.dead) := fun _ => c3
  clear h c1 c2 cf
  generalize (lk s.L name).isSome = r at *
  cases r
  case false =>
    go_enter Tryz.func65, Tryz.ntmps65
    go_wp2_with (fail)
    refine HF.out.mono ?_
    rintro e w1 ⟨rfl, q, rfl⟩
    go_wp2_with (fail)
    go_ret
    exact ⟨by simp, q, rfl⟩
  case true =>
    go_enter Tryz.func65, Tryz.ntmps65
    go_wp2_with (fail)
    refine HF.out.mono ?_
    rintro e w1 ⟨rfl, q, rfl⟩
    go_wp2_with (fail)
    go_ret
    exact ⟨by simp, q, rfl⟩
set_option maxHeartbeats 16000000 in
set_option maxRecDepth 100000 in
theorem rbytes_calls (p g : Nat) (s : St) (name : ByteArray) (w : World) (h : RK w p g s) : Calls Tryz.prog 64 #[.pointer (some ⟨p, 0, none⟩), .string name] w fun e w' => e = .returned (.string (lkD s.L name)) ∧ ∃ q, w' = w.drewN q := by
  have HF := Aside0.mk (find_calls p g s name w h)
  obtain ⟨v, hF, c0, c1, c2, c3, cf⟩ := h.cells
  have hris := h.okf.1
  clear h c1 c2 c3 cf
  by_cases hs : (lk s.L name).isSome = true
  · obtain ⟨hi, hq0, h2⟩ := fi_some hris hs
    rw [hs] at HF
    rcases hF.shape with ⟨_, _, hL⟩ | ⟨cap, rfl, hcap, hcm, hcs, _⟩
    · rw [hL] at hi; exact absurd hi (by simp)
    · obtain ⟨hq1, k1⟩ := hcs _ hi
      rw [h2] at k1
      have c0' : ∀ q, (w.drewN q).cell? ⟨p, 0, none⟩ = some (.slice (some ⟨g, 0, none⟩) s.L.length cap) := fun _ => c0
      have k1' : ∀ q, (w.drewN q).cell? ⟨g, fi s.L name * 2 + 1, none⟩ = some (.string (lkD s.L name)) := fun _ => k1
      have i1 : (fi s.L name : Int) < (s.L.length : Int) := by omega
      have i2 : (0 : Int) ≤ (fi s.L name : Int) := by omega
      clear hF hcs c0 k1 hq0 hq1 h2 hs hris hi
      generalize fi s.L name = i at *
      generalize hx : lkD s.L name = x at *
      have HX := Aside0.mk hx
      clear hx
      go_enter Tryz.func64, Tryz.ntmps64
      go_wp2_with (fail)
      refine HF.out.mono ?_
      rintro e w1 ⟨rfl, q, rfl⟩
      go_wp2_with (fail)
      go_ret
      exact ⟨rfl, q, rfl⟩
  · rw [Bool.eq_false_iff.2 hs] at HF
    rw [lkD_none hs]
    clear hF hs hris c0
    go_enter Tryz.func64, Tryz.ntmps64
    go_wp2_with (fail)
    refine HF.out.mono ?_
    rintro e w1 ⟨rfl, q, rfl⟩
    go_wp2_with (fail)
    go_ret
    exact ⟨rfl, q, rfl⟩
def badN (n : ByteArray) : Prop := n.size < 1 ∨ 128 < n.size
instance (n : ByteArray) : Decidable (badN n) := inferInstanceAs (Decidable (_ ∨ _))
set_option maxHeartbeats 8000000 in
theorem rmay_calls (name : ByteArray) (w : World) : Calls Tryz.prog 63 #[.string name] w fun e w' => e = .returned (.bool (decide (¬ badN name))) ∧ w' = w := by
  unfold badN
  by_cases h1 : name.size < 1
  · rw [decide_eq_false (fun q => q (.inl h1))]
    have e1 : ¬ (1 : Int) ≤ (name.size : Int) := by omega
    go_enter Tryz.func63, Tryz.ntmps63
    go_wp2
    go_ret
    exact ⟨by simp [e1], rfl⟩
  · have e1 : (1 : Int) ≤ (name.size : Int) := by omega
    by_cases h2 : 128 < name.size
    · rw [decide_eq_false (fun q => q (.inr h2))]
      have e2 : ¬ (name.size : Int) ≤ 128 := by omega
      go_enter Tryz.func63, Tryz.ntmps63
      go_wp2
      go_ret
      exact ⟨by first | rfl | (simp; done) | (simp [e2]; done) | (simp; omega), rfl⟩
    · rw [decide_eq_true (by omega)]
      have e2 : (name.size : Int) ≤ 128 := by omega
      go_enter Tryz.func63, Tryz.ntmps63
      go_wp2
      go_ret
      exact ⟨by first | rfl | (simp; done) | (simp [e2]; done) | (simp; omega), rfl⟩
set_option maxHeartbeats 8000000 in
theorem rnew_calls (cut : Int) (w : World) : Calls Tryz.prog 21 #[.int .i64 cut] w fun e w' => e = .returned (.pointer (some ⟨w.heap.size, 0, none⟩)) ∧ RK w' w.heap.size w.heap.size ⟨[], cut, 0, false⟩ ∧ Below w.heap.size w w' := by
  go_enter Tryz.func21, Tryz.ntmps21
  go_wp2
  go_ret
  refine ⟨rfl, ⟨.slice none 0 0, ?_, ⟨World.ownsRow_nil _ _ _ _, .inl ⟨rfl, rfl⟩⟩, List.Pairwise.nil, Nat.zero_le _, fun p hp => by cases hp⟩, (Below.refl _ _).alloc (Nat.le_refl _) _⟩
  exact (MapKept.heap_alloc w (.cells (cellsR (.slice none 0 0) ⟨[], cut, 0, false⟩) 64 (0, 0))).1
set_option maxHeartbeats 8000000 in
theorem rrestart_calls (p g : Nat) (s : St) (cut : Int) (w : World) (h : RK w p g s) : Calls Tryz.prog 24 #[.pointer (some ⟨p, 0, none⟩), .int .i64 cut] w fun e w' => e = .returned (.tuple #[]) ∧ RK w' p g ⟨s.L, cut, 0, false⟩ ∧ Kp p g w w' := by
  obtain ⟨v, _, c0, c1, c2, c3, cf⟩ := h.cells
  have f1 := cf 1
  have f2 := cf 2
  have f3 := cf 3
  have HR := Aside0.mk h
  clear h c0 cf
  go_enter Tryz.func24, Tryz.ntmps24
  go_wp2
  go_end0
  exact ⟨rfl, ((HR.out.setCut cut).setCnt 0).setDead false, (((Kp.refl p g w).set _).set _).set _⟩
end
section
set_option maxHeartbeats 16000000 in
set_option maxRecDepth 100000 in
theorem rraw_calls (p g : Nat) (s : St) (w : World) (h : RK w p g s) (hd : s.dead = false) : Calls Tryz.prog 70 #[.pointer (some ⟨p, 0, none⟩)] w fun e w' => ((rawOk s ∧ e = .returned (.bool true) ∧ RK w' p g { s with cnt := wrap64 (s.cnt + 1) }) ∨ (¬ rawOk s ∧ e = .returned (.bool false) ∧ RK w' p g { s with dead := true })) ∧ Kp p g w w' := by
  obtain ⟨v, _, c0, c1, c2, c3, cf⟩ := h.cells
  have HR := Aside0.mk h
  have f2 := cf 2
  have f3 := cf 3
  rw [hd] at c3
  unfold rawOk
  clear h c0 cf hd
  by_cases h0 : 0 ≤ s.cut
  · have e0 : decide (0 ≤ s.cut) = true := decide_eq_true h0
    by_cases h1 : s.cut ≤ s.cnt
    · have e1 : decide (s.cut ≤ s.cnt) = true := decide_eq_true h1
      go_enter Tryz.func70, Tryz.ntmps70
      go_wp2_with (fail)
      go_quiet (fail)
      go_wp2_with (fail)
      go_ret
      exact ⟨.inr ⟨fun q => q ⟨h0, h1⟩, rfl, (HR.out.drew nq).setDead true⟩, ((Kp.refl p g w).drew nq).set _⟩
    · have e1 : decide (s.cut ≤ s.cnt) = false := decide_eq_false h1
      go_enter Tryz.func70, Tryz.ntmps70
      go_wp2_with (fail)
      go_quiet (fail)
      go_wp2_with (fail)
      go_ret
      exact ⟨.inl ⟨fun q => by omega, rfl, (HR.out.drew nq).setCnt _⟩, ((Kp.refl p g w).drew nq).set _⟩
  · have e0 : decide (0 ≤ s.cut) = false := decide_eq_false h0
    go_enter Tryz.func70, Tryz.ntmps70
    go_wp2_with (fail)
    go_quiet (fail)
    go_wp2_with (fail)
    go_ret
    exact ⟨.inl ⟨fun q => by omega, rfl, (HR.out.drew nq).setCnt _⟩, ((Kp.refl p g w).drew nq).set _⟩
theorem ableC_bad {s : St} {name : ByteArray} (h : badN name) : ableC s name = 2 := by unfold badN at h; unfold ableC; rw [if_pos h]
theorem ableC_ok {s : St} {name : ByteArray} (h : ¬ badN name) : ableC s name = if s.dead then 5 else 0 := by unfold badN at h; unfold ableC; rw [if_neg h]
theorem thereC_bad {s : St} {name : ByteArray} (h : badN name) : thereC s name = 2 := by unfold thereC; rw [ableC_bad h]; rfl
theorem thereC_dead {s : St} {name : ByteArray} (h : ¬ badN name) (hd : s.dead = true) : thereC s name = 5 := by unfold thereC; rw [ableC_ok h, hd]; rfl
theorem thereC_none {s : St} {name : ByteArray} (h : ¬ badN name) (hd : s.dead = false) (hl : (lk s.L name).isSome = false) : thereC s name = 6 := by unfold thereC; rw [ableC_ok h, hd, hl]; rfl
theorem thereC_some {s : St} {name : ByteArray} (h : ¬ badN name) (hd : s.dead = false) (hl : (lk s.L name).isSome = true) : thereC s name = 0 := by unfold thereC; rw [ableC_ok h, hd, hl]; rfl
set_option maxHeartbeats 16000000 in
set_option maxRecDepth 100000 in
theorem rread_calls (p g : Nat) (s : St) (name : ByteArray) (w : World) (h : RK w p g s) : Calls Tryz.prog 51 #[.pointer (some ⟨p, 0, none⟩), .string name] w fun e w' => e = .returned (.tuple #[.string (if thereC s name = 0 then lkD s.L name else ⟨#[]⟩), .int .i64 (thereC s name)]) ∧ ∃ q, w' = w.drewN q := by
  have HH := Aside0.mk (rhas_calls p g s name w h)
  have HB := Aside0.mk (fun q => rbytes_calls p g s name (w.drewN q) (h.drew q))
  obtain ⟨v, _, c0, c1, c2, c3, cf⟩ := h.cells
  have HM := Aside0.mk (rmay_calls name w)
  clear h c0 c1 c2 cf
  by_cases hb : badN name
  · rw [thereC_bad hb, if_neg (by omega)]
    rw [decide_eq_false (fun q => q hb)] at HM
    clear hb
    go_enter Tryz.func51, Tryz.ntmps51
    go_wp2_with (fail)
    refine HM.out.mono ?_
    rintro e w1 ⟨rfl, rfl⟩
    go_wp2_with (fail)
    go_ret2
    exact ⟨rfl, 0, rfl⟩
  · rw [decide_eq_true hb] at HM
    cases hd : s.dead
    · rw [hd] at c3 HH
      cases hl : (lk s.L name).isSome
      · rw [hl] at HH
        rw [thereC_none hb hd hl, if_neg (by omega)]
        clear hd hl
        clear hb
        go_enter Tryz.func51, Tryz.ntmps51
        go_wp2_with (fail)
        refine HM.out.mono ?_
        rintro e w1 ⟨rfl, rfl⟩
        go_wp2_with (fail)
        refine HH.out.mono ?_
        rintro e w1 ⟨rfl, q, rfl⟩
        go_wp2_with (fail)
        go_ret2
        exact ⟨rfl, q, rfl⟩
      · rw [hl] at HH
        rw [thereC_some hb hd hl, if_pos rfl]
        clear hd hl
        clear hb
        go_enter Tryz.func51, Tryz.ntmps51
        go_wp2_with (fail)
        refine HM.out.mono ?_
        rintro e w1 ⟨rfl, rfl⟩
        go_wp2_with (fail)
        refine HH.out.mono ?_
        rintro e w1 ⟨rfl, q, rfl⟩
        go_wp2_with (fail)
        refine (HB.out q).mono ?_
        rintro e w1 ⟨rfl, q2, rfl⟩
        go_wp2_with (fail)
        go_ret2
        exact ⟨rfl, q + q2, by first | rfl | rw [World.drewN_drewN]⟩
    · rw [hd] at c3
      rw [thereC_dead hb hd, if_neg (by omega)]
      clear hd
      clear hb
      go_enter Tryz.func51, Tryz.ntmps51
      go_wp2_with (fail)
      refine HM.out.mono ?_
      rintro e w1 ⟨rfl, rfl⟩
      go_wp2_with (fail)
      go_ret2
      exact ⟨rfl, 0, rfl⟩
end
section
theorem set_self {α : Type} {l : List α} {i : Nat} {x : α} (h : l[i]? = some x) : l.set i x = l := by
  obtain ⟨hi, e⟩ := List.getElem?_eq_some_iff.1 h
  subst e
  exact List.set_getElem_self hi
theorem RF.put {w : World} {p g : Nat} {v : Value} {L : FS} (h : RF w p g v L) (i : Nat) (hi : i < L.length) (q : ByteArray × ByteArray) : RF ((w.setCell ⟨g, i * 2, none⟩ (.string q.1)).setCell ⟨g, i * 2 + 1, none⟩ (.string q.2)) p g v (L.set i q) := by
  obtain ⟨h1, h2⟩ := h
  rcases h1.2 with ⟨_, hz⟩ | ⟨g', cap, cur, rfl, hb, hg, hnc, hcm, hcs, ht⟩
  · omega
  · rcases h2 with ⟨h2, _⟩ | h2
    · cases h2
    · obtain rfl : g' = g := by injection h2
      refine ⟨⟨by rw [flat_len], .inr ⟨g', cap, (cur.setIfInBounds (i * 2) (.string q.1)).setIfInBounds (i * 2 + 1) (.string q.2), by rw [List.length_set], hb, heap_set (heap_set hg _) _, by rw [List.length_set]; exact hnc, hcm, by simpa using hcs, ?_⟩⟩, .inr rfl⟩
      rw [List.length_set, Array.toList_setIfInBounds, Array.toList_setIfInBounds, List.take_set, List.take_set, ht, flat_set]
theorem RF.putBytes {w : World} {p g : Nat} {v : Value} {L : FS} (h : RF w p g v L) (i : Nat) (hi : i < L.length) (x : ByteArray) : RF (w.setCell ⟨g, i * 2 + 1, none⟩ (.string x)) p g v (L.set i (L[i].1, x)) := by
  obtain ⟨h1, h2⟩ := h
  rcases h1.2 with ⟨_, hz⟩ | ⟨g', cap, cur, rfl, hb, hg, hnc, hcm, hcs, ht⟩
  · omega
  · rcases h2 with ⟨h2, _⟩ | h2
    · cases h2
    · obtain rfl : g' = g := by injection h2
      refine ⟨⟨by rw [flat_len], .inr ⟨g', cap, cur.setIfInBounds (i * 2 + 1) (.string x), by rw [List.length_set], hb, heap_set hg _, by rw [List.length_set]; exact hnc, hcm, by simpa using hcs, ?_⟩⟩, .inr rfl⟩
      rw [List.length_set, Array.toList_setIfInBounds, List.take_set, ht, flat_set, set_self (flat_name L i hi)]
theorem hole_up {L : FS} {x : ByteArray × ByteArray} {k : Nat} (hk : k < L.length) : (L.take (k + 1) ++ x :: L.drop (k + 1)).set (k + 1) L[k] = L.take k ++ L[k] :: L.drop k := by
  rw [List.take_succ_eq_append_getElem hk, List.append_assoc, List.set_append_right _ _ (by simp; omega)]
  have e : k + 1 - (L.take k).length = 1 := by rw [List.length_take]; omega
  rw [e, List.drop_eq_getElem_cons hk]
  rfl
theorem hole_down {L : FS} {x : ByteArray × ByteArray} {i k : Nat} (hi : i ≤ k) (hk : k + 1 < L.length) : ((L.eraseIdx i).take k ++ x :: L.drop (k + 1)).set k L[k + 1] = (L.eraseIdx i).take (k + 1) ++ L[k + 1] :: L.drop (k + 2) := by
  have hle : (L.eraseIdx i).length = L.length - 1 := List.length_eraseIdx_of_lt (by omega)
  have e : k - ((L.eraseIdx i).take k).length = 0 := by rw [List.length_take]; omega
  rw [List.set_append_right _ _ (by rw [List.length_take]; omega), e, List.set_cons_zero, List.take_succ_eq_append_getElem (by omega), List.append_assoc, List.getElem_eraseIdx_of_ge (by omega) hi]
  rw [List.drop_eq_getElem_cons (by omega : k + 1 < L.length)]
  rfl
end
section
def RJ (w : World) (p g : Nat) (v : Value) (s : St) : Prop := w.heap[p]? = some (.cells (cellsR v s) 64 (0, 0)) ∧ RF w p g v s.L
theorem RK.rj {w : World} {p g : Nat} {s : St} (h : RK w p g s) : ∃ v, RJ w p g v s := by
  obtain ⟨v, h1, h2, _⟩ := h
  exact ⟨v, h1, h2⟩
theorem RJ.rk {w : World} {p g : Nat} {v : Value} {s : St} (h : RJ w p g v s) (ho : Okf s.L) : RK w p g s := ⟨v, h.1, h.2, ho⟩
theorem RJ.put {w : World} {p g : Nat} {v : Value} {s : St} (h : RJ w p g v s) (hne : g ≠ p) (i : Nat) (hi : i < s.L.length) (q : ByteArray × ByteArray) : RJ ((w.setCell ⟨g, i * 2, none⟩ (.string q.1)).setCell ⟨g, i * 2 + 1, none⟩ (.string q.2)) p g v { s with L := s.L.set i q } :=
  ⟨(Below.heap_setCell _ _ _ p (fun e => hne e.symm)).trans ((Below.heap_setCell _ _ _ p (fun e => hne e.symm)).trans h.1), h.2.put i hi q⟩
theorem RJ.putBytes {w : World} {p g : Nat} {v : Value} {s : St} (h : RJ w p g v s) (hne : g ≠ p) (i : Nat) (hi : i < s.L.length) (x : ByteArray) : RJ (w.setCell ⟨g, i * 2 + 1, none⟩ (.string x)) p g v { s with L := s.L.set i (s.L[i].1, x) } :=
  ⟨(Below.heap_setCell _ _ _ p (fun e => hne e.symm)).trans h.1, h.2.putBytes i hi x⟩
theorem RJ.cells {w : World} {p g : Nat} {v : Value} {s : St} (h : RJ w p g v s) : w.cell? ⟨p, 0, none⟩ = some v ∧ w.cell? ⟨p, 1, none⟩ = some (.int .i64 s.cut) ∧ w.cell? ⟨p, 2, none⟩ = some (.int .i64 s.cnt) ∧ w.cell? ⟨p, 3, none⟩ = some (.bool s.dead) ∧ ∀ o, w.frozen? ⟨p, o, none⟩ = false := by
  obtain ⟨h1, _⟩ := h
  simp [World.cell?, World.frozen?, h1]
theorem RJ.drew {w : World} {p g : Nat} {v : Value} {s : St} (h : RJ w p g v s) (n : Nat) : RJ (w.drewN n) p g v s := h
theorem Kp.setb {p b i : Nat} {u v : World} (h : Kp p b u v) (x : Value) : Kp p b u (v.setCell ⟨b, i, none⟩ x) :=
  ⟨h.os, h.tape, h.output, by simpa using h.size, fun k hk h1 h2 => (Below.heap_setCell v ⟨b, i, none⟩ x k h2).trans (h.block k hk h1 h2)⟩
theorem Kp.sete {p b g i : Nat} {u v : World} (h : Kp p b u v) (hg : g = b ∨ u.heap.size ≤ g) (x : Value) : Kp p b u (v.setCell ⟨g, i, none⟩ x) := by
  rcases hg with rfl | hg
  · exact h.setb x
  · exact h.new hg x
theorem Kp.grown {p b : Nat} {u v v' : World} {row : Option Nat} (h : Kp p b u v) (hg : v.grownBy v' row) (hr : ∀ k, row = some k → k = b ∨ u.heap.size ≤ k) : Kp p b u v' :=
  ⟨hg.os.trans h.os, hg.tape.trans h.tape, hg.output.trans h.output, Nat.le_trans h.size hg.size, fun k hk h1 h2 => (hg.block k (Nat.lt_of_lt_of_le hk h.size) (fun e => by
    rcases hr k e.symm with rfl | h3
    · exact h2 rfl
    · omega)).trans (h.block k hk h1 h2)⟩
theorem cell_two_new (w : World) (x y : Value) (t : TypeId) : ∀ j u, [x, y][j]? = some u → (w.alloc (.cells #[x, y] t)).cell? ((⟨w.heap.size, 0, none⟩ : Addr).add j) = some u := by
  intro j u h
  have hb := (MapKept.heap_alloc w (.cells #[x, y] t)).1
  match j, h with
  | 0, h => injection h with h; subst h; rw [show (⟨w.heap.size, 0, none⟩ : Addr).add 0 = ⟨w.heap.size, 0, none⟩ from rfl, cell_of_row _ _ _ _ _ _ hb]; rfl
  | 1, h => injection h with h; subst h; rw [show (⟨w.heap.size, 0, none⟩ : Addr).add 1 = ⟨w.heap.size, 1, none⟩ from rfl, cell_of_row _ _ _ _ _ _ hb]; rfl
theorem info71 : (Tryz.prog.info? 120).map (fun i => (i.zero, i.size, i.bytes)) = some (some (.agg #[.string ⟨#[]⟩, .string ⟨#[]⟩]), 2, 32) := by kernel_rfl
theorem rj_grown {w w2 : World} {p g : Nat} {s : St} {v v' : Value} {o : Obj} (q : Nat) (hJ : RJ w p g v s) (hg2 : ((w.drewN q).alloc o).grownBy w2 v.ownBlock) (hat : v'.ownBlock = v.ownBlock ∨ v'.ownBlock = some ((w.drewN q).alloc o).heap.size)
    (hown2 : w2.ownsRow 0 120 2 v' (s.L.length + 1) (flat s.L ++ [.string ⟨#[]⟩, .string ⟨#[]⟩])) :
    w2.heap[p]? = some (.cells (cellsR v s) 64 (0, 0)) ∧ ∃ g' cap, v' = .slice (some ⟨g', 0, none⟩) (s.L.length + 1) cap ∧ s.L.length + 1 ≤ cap ∧ (g' = g ∨ w.heap.size ≤ g') ∧ g' ≠ p ∧ RF w2 p g' v' (s.L ++ [(⟨#[]⟩, ⟨#[]⟩)]) ∧ Kp p g w w2 := by
  have hp : p < w.heap.size := (Array.getElem?_eq_some_iff.1 hJ.1).1
  have hA : Below w.heap.size w ((w.drewN q).alloc o) := (pw_below_drewN (Below.refl _ _) q).alloc (Nat.le_refl _) _
  have hpA : ((w.drewN q).alloc o).heap[p]? = some (.cells (cellsR v s) 64 (0, 0)) := (hA.block p hp).trans hJ.1
  have hrow : ∀ k, v.ownBlock = some k → k = g ∧ k ≠ p := by
    intro k hk
    rcases hJ.2.2 with ⟨h, _⟩ | h
    · rw [h] at hk; cases hk
    · rw [h] at hk
      injection hk with hk
      refine ⟨hk.symm, ?_⟩
      rintro rfl
      rcases hJ.2.1.2 with ⟨hn, _⟩ | ⟨g1, c1, cur, hv, _, hb1, _⟩
      · rw [hn] at h; cases h
      · rw [hv] at h
        injection h with h
        rw [show g1 = k from h.trans hk, hJ.1] at hb1
        injection hb1 with hb1
        injection hb1 with _ hb1
        cases hb1
  have hp2 : w2.heap[p]? = some (.cells (cellsR v s) 64 (0, 0)) := (hg2.block p (Nat.lt_of_lt_of_le hp hA.size) (fun e => (hrow p e.symm).2 rfl)).trans hpA
  refine ⟨hp2, ?_⟩
  rcases hown2.2 with ⟨_, hz⟩ | ⟨g', cap, cur, rfl, hb, hgc, hnc, hcm, hcs, ht⟩
  · omega
  · have hg' : (g' = g ∨ w.heap.size ≤ g') ∧ g' ≠ p := by
      rcases hat with h | h
      · obtain ⟨h1, h2⟩ := hrow g' h.symm
        exact ⟨.inl h1, h2⟩
      · injection h with h
        have h' : g' = ((w.drewN q).alloc o).heap.size := h
        have h2 : w.heap.size < ((w.drewN q).alloc o).heap.size := by simp
        exact ⟨.inr (by omega), by omega⟩
    refine ⟨g', cap, rfl, hnc, hg'.1, hg'.2, ⟨⟨by rw [flat_len], ?_⟩, .inr rfl⟩, (Kp.of hA).grown hg2 (fun k hk => .inl (hrow k hk).1)⟩
    have e : flat (s.L ++ [(⟨#[]⟩, ⟨#[]⟩)]) = flat s.L ++ [.string ⟨#[]⟩, .string ⟨#[]⟩] := by rw [flat_app]; rfl
    rw [e]
    have h2 := hown2.2
    rw [List.length_append]
    exact h2
theorem lay_okf {L : FS} {k v : ByteArray} (h : Okf L) (hv : v.size ≤ 16777216) (hl : (lk L k).isSome = true ∨ L.length < 65536) : Okf (lay L k v) := by
  refine ⟨lay_ris _ _ _ h.1, ?_, fun q hq => ?_⟩
  · rw [lay_len _ _ _ h.1]
    have := h.2.1
    rcases hl with hl | hl
    · rw [if_pos hl]; exact this
    · split
      · exact this
      · omega
  · rcases mem_lay _ _ _ _ hq with rfl | hq
    · exact hv
    · exact h.2.2 q hq
set_option maxHeartbeats 16000000 in
set_option maxRecDepth 100000 in
theorem rlay_is (p g : Nat) (s : St) (name bytes : ByteArray) (w : World) (h : RK w p g s) (hs : (lk s.L name).isSome = true) (hb : bytes.size ≤ 16777216) : Calls Tryz.prog 71 #[.pointer (some ⟨p, 0, none⟩), .string name, .string bytes] w fun e w' => e = .returned (.tuple #[]) ∧ RK w' p g { s with L := lay s.L name bytes } ∧ Kp p g w w' := by
  have HF := Aside0.mk (find_calls p g s name w h)
  rw [hs] at HF
  obtain ⟨hi, hq0, _⟩ := fi_some h.okf.1 hs
  have HL := Aside0.mk (And.intro (fi_lay s.L name bytes h.okf.1) (lay_okf (v := bytes) h.okf hb (.inl hs)))
  obtain ⟨v, hJ⟩ := h.rj
  have HJ := Aside0.mk hJ
  have HQ : Aside0 (∀ j (hj : j < s.L.length), fi s.L name = j → s.L.set j (s.L[j].1, bytes) = lay s.L name bytes) := ⟨by
    intro j hj e
    subst e
    rw [hq0, fi_lay s.L name bytes h.okf.1, if_pos hs]⟩
  have hF := hJ.2
  obtain ⟨c0, c1, c2, c3, cf⟩ := hJ.cells
  have hne : g ≠ p := by
    rcases h.ne with ⟨_, h2⟩ | h2
    · rw [h2] at hi; exact absurd hi (by simp)
    · exact h2
  rcases hF.shape with ⟨_, _, hL⟩ | ⟨cap, rfl, hcap, hcm, hcs, hfz⟩
  · rw [hL] at hi; exact absurd hi (by simp)
  obtain ⟨_, k1⟩ := hcs _ hi
  have hfz1 := hfz (fi s.L name * 2 + 1)
  have i1 : (fi s.L name : Int) < (s.L.length : Int) := by omega
  have i2 : (0 : Int) ≤ (fi s.L name : Int) := by omega
  generalize hfi : fi s.L name = i at *
  generalize s.L[i].2 = x0 at *
  clear hfi h hs hJ hF c1 c2 c3 hcs hfz hq0 cf
  have c0' : ∀ q, (w.drewN q).cell? ⟨p, 0, none⟩ = some (.slice (some ⟨g, 0, none⟩) s.L.length cap) := fun _ => c0
  have k1' : ∀ q, (w.drewN q).cell? ⟨g, i * 2 + 1, none⟩ = some (.string x0) := fun _ => k1
  have f1' : ∀ q, (w.drewN q).frozen? ⟨g, i * 2 + 1, none⟩ = false := fun _ => hfz1
  go_enter Tryz.func71, Tryz.ntmps71
  go_wp2_with (fail)
  refine HF.out.mono ?_
  rintro e w1 ⟨rfl, q, rfl⟩
  go_wp2_with (fail)
  refine bodyPost_ret (results_none rfl _ _ _) rfl ?_
  refine ⟨rfl, ?_, ((Kp.refl p g w).drew q).setb _⟩
  have hJ2 := (HJ.out.drew q).putBytes hne i hi bytes
  rw [HQ.out i hi rfl] at hJ2
  exact hJ2.rk HL.out.2
end
section
set_option maxHeartbeats 16000000 in
set_option maxRecDepth 100000 in
theorem rlay_new (p g : Nat) (s : St) (name bytes : ByteArray) (w : World) (h : RK w p g s) (hs : (lk s.L name).isSome = false) (hl : s.L.length < 65536) (hb : bytes.size ≤ 16777216) : Calls Tryz.prog 71 #[.pointer (some ⟨p, 0, none⟩), .string name, .string bytes] w fun e w' => e = .returned (.tuple #[]) ∧ ∃ g', RK w' p g' { s with L := lay s.L name bytes } ∧ (g' = g ∨ w.heap.size ≤ g') ∧ Kp p g w w' := by
  have HF := Aside0.mk (find_calls p g s name w h)
  rw [hs] at HF
  have HL : Aside0 (lay s.L name bytes = s.L.take (fi s.L name) ++ (name, bytes) :: s.L.drop (fi s.L name)) := ⟨by rw [fi_lay s.L name bytes h.okf.1, if_neg (by rw [hs]; decide)]⟩
  have HO := Aside0.mk (lay_okf (k := name) (v := bytes) h.okf hb (.inr hl))
  have hi := fi_le s.L name
  have hp := h.lt
  obtain ⟨v, hJ⟩ := h.rj
  have HJ := Aside0.mk hJ
  obtain ⟨c0, c1, c2, c3, cf⟩ := hJ.cells
  have f0 := cf 0
  obtain ⟨i0, hi0, hz0, hz1, hz2⟩ := info_parts info71
  have HOWN := Aside0.mk (fun (q : Nat) (o : Obj) => (show (w.drewN q).ownsRow 0 120 2 v s.L.length (flat s.L) from hJ.2.1).alloc o)
  generalize fi s.L name = i at *
  clear h hs hJ c1 c2 c3 cf
  have c0' : ∀ q, (w.drewN q).cell? ⟨p, 0, none⟩ = some v := fun _ => c0
  go_enter Tryz.func71, Tryz.ntmps71
  go_wp2_with (fail)
  refine HF.out.mono ?_
  rintro e w1 ⟨rfl, q, rfl⟩
  go_wp2_with (first
    | (at_builtin; refine wpList_append_own_at _ rfl (.tmp 28) (.tmp 30) 62 rfl 0 120 i0 (.agg #[.string ⟨#[]⟩, .string ⟨#[]⟩]) 2 32 Tryz.underlying62 hi0 hz0 hz1 hz2 rfl (by decide) v s.L.length (flat s.L) rfl (HOWN.out q _) ⟨w.heap.size, 0, none⟩ 1 1 [.string ⟨#[]⟩, .string ⟨#[]⟩] rfl rfl (cell_two_new _ _ _ _) (by simp [Value.oneCell']) (by unfold maxLen; omega) (by omega) (Nat.zero_le _) ?_; intro v' w2 hown2 hg2 hn2 hat2; obtain ⟨hp2, g', cap, rfl, hcap, hor, hne, hF2, hK2⟩ := rj_grown q HJ.out hg2 hat2 hown2; have d0 : w2.cell? ⟨p, 0, none⟩ = some v := (by simp [World.cell?, hp2]); have df : w2.frozen? ⟨p, 0, none⟩ = false := (by simp [World.frozen?, hp2]); have HK2 := Aside0.mk hK2; have HF2 := Aside0.mk (And.intro hp2 hF2); clear hown2 hg2 hn2 hat2 hp2 hF2 hK2)
    | go_in)
  go_loopw [8] (fun v8 wr => ∃ (k : Nat) (x : ByteArray × ByteArray), i ≤ k ∧ k ≤ s.L.length ∧ v8 = .int .i64 k ∧ Aside0 (RJ wr p g' (.slice (some ⟨g', 0, none⟩) (s.L.length + 1) cap) { s with L := s.L.take k ++ x :: s.L.drop k }) ∧ Aside0 (Kp p g w wr)) (fun v8 _ => (intOf v8).toNat)
  case atStart =>
    refine ⟨s.L.length, (⟨#[]⟩, ⟨#[]⟩), hi, Nat.le_refl _, by first | rfl | (simp; done) | (congr 1; omega), ⟨?_⟩, ⟨HK2.out.set _⟩⟩
    rw [List.take_length, List.drop_length]
    exact ⟨by rw [heap_set HF2.out.1]; rfl, HF2.out.2.kept (Below.heap_setCell _ _ _ _ hne)⟩
  case round =>
    obtain ⟨k, x, hk1, hk2, rfl, HR, HK⟩ := hrel
    have hlen : (s.L.take k ++ x :: s.L.drop k).length = s.L.length + 1 := by simp; omega
    obtain ⟨r0, _, _, _, _⟩ := HR.out.cells
    clear d0 df c0 c0' f0
    by_cases hik : i < k
    · obtain ⟨m, rfl⟩ : ∃ m, k = m + 1 := ⟨k - 1, by omega⟩
      have hm : m < s.L.length := by omega
      rcases HR.out.2.shape with ⟨hx, _⟩ | ⟨cap', hx, _, _, hcs, hfz⟩
      · cases hx
      have hx1 := hcs m (by rw [hlen]; omega)
      have hx2 := hcs (m + 1) (by rw [hlen]; omega)
      have e1 : (s.L.take (m + 1) ++ x :: s.L.drop (m + 1))[m]'(by rw [hlen]; omega) = s.L[m] := by
        rw [List.getElem_append_left (by simp; omega), List.getElem_take]
      simp only [e1] at hx1
      obtain ⟨k1, k2⟩ := hx1
      obtain ⟨k3, k4⟩ := hx2
      have fz3 := hfz ((m + 1) * 2)
      have fz4 := hfz ((m + 1) * 2 + 1)
      have HUP := Aside0.mk (hole_up (x := x) hm)
      generalize (s.L.take (m + 1) ++ x :: s.L.drop (m + 1))[m + 1].1 = z1 at *
      generalize (s.L.take (m + 1) ++ x :: s.L.drop (m + 1))[m + 1].2 = z2 at *
      generalize s.L[m] = y at *
      clear hcs hfz e1 hx
      go_wp2_with (fail)
      go_region
      go_wp2_with (fail)
      go_roundw
      case measure => simp [intOf]
      case rel =>
        refine ⟨m, y, by omega, by omega, by first | rfl | (simp; done) | (congr 1; omega), ⟨?_⟩, ⟨((HK.out.sete hor _).sete hor _).drew 1⟩⟩
        have hP := HR.out.put hne (m + 1) (by rw [hlen]; omega) y
        rw [HUP.out] at hP
        exact hP
    · obtain rfl : k = i := by omega
      rcases HR.out.2.shape with ⟨hx, _⟩ | ⟨cap', hx, _, _, hcs, hfz⟩
      · cases hx
      have hx1 := hcs k (by rw [hlen]; omega)
      obtain ⟨k1, k2⟩ := hx1
      have fz3 := hfz (k * 2)
      have fz4 := hfz (k * 2 + 1)
      have HUP : Aside0 ((s.L.take k ++ x :: s.L.drop k).set k (name, bytes) = s.L.take k ++ (name, bytes) :: s.L.drop k) := ⟨by
        have e : k - (s.L.take k).length = 0 := by rw [List.length_take]; omega
        rw [List.set_append_right _ _ (by rw [List.length_take]; omega), e, List.set_cons_zero]⟩
      generalize (s.L.take k ++ x :: s.L.drop k)[k].1 = z1 at *
      generalize (s.L.take k ++ x :: s.L.drop k)[k].2 = z2 at *
      clear hcs hfz hx
      go_wp2_with (fail)
      go_end0
      refine ⟨rfl, g', ?_, hor, (HK.out.sete hor _).sete hor _⟩
      have hP := HR.out.put hne k (by rw [hlen]; omega) (name, bytes)
      rw [HUP.out, ← HL.out] at hP
      exact hP.rk HO.out
end
section
theorem RF.short {w : World} {p g n m cap : Nat} {L : FS} (h : RF w p g (.slice (some ⟨g, 0, none⟩) n cap) L) (hn : n = L.length) (hm : m ≤ n) : RF w p g (.slice (some ⟨g, 0, none⟩) m cap) (L.take m) := by
  subst hn
  obtain ⟨h1, h2⟩ := h
  have hl : (L.take m).length = m := by rw [List.length_take]; omega
  refine ⟨⟨by rw [flat_len], ?_⟩, .inr rfl⟩
  rcases h1.2 with ⟨hx, _⟩ | ⟨g', cap', cur, hv, hb, hg, hnc, hcm, hcs, ht⟩
  · cases hx
  · cases hv
    refine .inr ⟨g, cap, cur, by rw [hl], hb, hg, by omega, hcm, hcs, ?_⟩
    rw [hl, ← flat_take, ← ht, List.take_take]
    congr 1
    omega
theorem take_erase_len {L : FS} {i : Nat} (hi : i < L.length) : (L.eraseIdx i).length + 1 = L.length := by
  rw [List.length_eraseIdx_of_lt hi]; omega
set_option maxHeartbeats 16000000 in
set_option maxRecDepth 100000 in
theorem rtake_calls (p g : Nat) (s : St) (name : ByteArray) (w : World) (h : RK w p g s) : Calls Tryz.prog 90 #[.pointer (some ⟨p, 0, none⟩), .string name] w fun e w' => e = .returned (.tuple #[]) ∧ RK w' p g { s with L := take s.L name } ∧ Kp p g w w' := by
  have HF := Aside0.mk (find_calls p g s name w h)
  by_cases hs : (lk s.L name).isSome = true
  · rw [hs] at HF
    obtain ⟨hi, _, _⟩ := fi_some h.okf.1 hs
    have HT := Aside0.mk (And.intro (fi_take s.L name h.okf.1 hs) (take_ok h.okf name))
    obtain ⟨v, hJ⟩ := h.rj
    obtain ⟨c0, c1, c2, c3, cf⟩ := hJ.cells
    have f0 := cf 0
    have hne : g ≠ p := by
      rcases h.ne with ⟨_, h2⟩ | h2
      · rw [h2] at hi; exact absurd hi (by simp)
      · exact h2
    have hn62 := h.okf.2.1
    rcases hJ.2.shape with ⟨_, _, hL⟩ | ⟨cap, rfl, hcap, _, _, _⟩
    · rw [hL] at hi; exact absurd hi (by simp)
    have HJ := Aside0.mk hJ
    have hE := take_erase_len hi
    have HD := Aside0.mk (fun (k : Nat) (x : ByteArray × ByteArray) (hk : k + 1 < s.L.length) (hik : fi s.L name ≤ k) => hole_down (L := s.L) (x := x) hik hk)
    generalize fi s.L name = i at *
    clear h hs hJ c1 c2 c3 cf
    have c0' : ∀ q, (w.drewN q).cell? ⟨p, 0, none⟩ = some (.slice (some ⟨g, 0, none⟩) s.L.length cap) := fun _ => c0
    go_enter Tryz.func90, Tryz.ntmps90
    go_wp2_with (fail)
    refine HF.out.mono ?_
    rintro e w1 ⟨rfl, q, rfl⟩
    go_wp2_with (fail)
    go_loopw [6] (fun v6 wr => ∃ (k : Nat) (x : ByteArray × ByteArray), i ≤ k ∧ k < s.L.length ∧ v6 = .int .i64 k ∧ Aside0 (RJ wr p g (.slice (some ⟨g, 0, none⟩) s.L.length cap) { s with L := (s.L.eraseIdx i).take k ++ x :: s.L.drop (k + 1) }) ∧ Aside0 (Kp p g w wr)) (fun v6 _ => s.L.length - (intOf v6).toNat)
    case atStart =>
      refine ⟨i, s.L[i], Nat.le_refl _, hi, rfl, ⟨?_⟩, ⟨(Kp.refl p g w).drew q⟩⟩
      have e : (s.L.eraseIdx i).take i ++ s.L[i] :: s.L.drop (i + 1) = s.L := by
        rw [List.eraseIdx_eq_take_drop_succ, List.take_append_of_le_length (by rw [List.length_take]; omega), List.take_take, Nat.min_self, ← List.drop_eq_getElem_cons hi, List.take_append_drop]
      rw [e]
      exact HJ.out.drew q
    case round =>
      obtain ⟨k, x, hk1, hk2, rfl, HR, HK⟩ := hrel
      have hlen : ((s.L.eraseIdx i).take k ++ x :: s.L.drop (k + 1)).length = s.L.length := by simp only [List.length_append, List.length_take, List.length_cons, List.length_drop]; omega
      obtain ⟨r0, _, _, _, rf⟩ := HR.out.cells
      have rf0 := rf 0
      clear c0 c0' f0 rf
      by_cases hik : k + 1 < s.L.length
      · rcases HR.out.2.shape with ⟨hx, _⟩ | ⟨cap', hx, _, _, hcs, hfz⟩
        · cases hx
        have hx1 := hcs (k + 1) (by rw [hlen]; omega)
        have hx2 := hcs k (by rw [hlen]; omega)
        have e1 : ((s.L.eraseIdx i).take k ++ x :: s.L.drop (k + 1))[k + 1]'(by rw [hlen]; omega) = s.L[k + 1] := by
          have hkl : ((s.L.eraseIdx i).take k).length = k := by rw [List.length_take]; omega
          rw [List.getElem_append_right (by omega)]
          simp only [hkl, Nat.add_sub_cancel_left]
          simp
        simp only [e1] at hx1
        obtain ⟨k1, k2⟩ := hx1
        obtain ⟨k3, k4⟩ := hx2
        have fz3 := hfz (k * 2)
        have fz4 := hfz (k * 2 + 1)
        have HUP := Aside0.mk (HD.out k x hik hk1)
        generalize ((s.L.eraseIdx i).take k ++ x :: s.L.drop (k + 1))[k].1 = z1 at *
        generalize ((s.L.eraseIdx i).take k ++ x :: s.L.drop (k + 1))[k].2 = z2 at *
        generalize s.L[k + 1] = y at *
        clear hcs hfz e1 hx rf0
        have hik' : (k : Int) + 1 < (s.L.length : Int) := by omega
        go_wp2_with (fail)
        go_region
        go_wp2_with (fail)
        go_roundw
        case measure => simp [intOf]; omega
        case rel =>
          refine ⟨k + 1, y, by omega, by omega, by first | rfl | (simp; done) | (congr 1; omega), ⟨?_⟩, ⟨((HK.out.setb _).setb _).drew 1⟩⟩
          have hP := HR.out.put hne k (by rw [hlen]; omega) y
          rw [HUP.out] at hP
          exact hP.drew 1
      · have hik' : ¬ ((k : Int) + 1 < (s.L.length : Int)) := by omega
        have HLN : Aside0 (s.L.length = k + 1) := ⟨by omega⟩
        have HTT : Aside0 (((s.L.eraseIdx i).take k ++ x :: s.L.drop (k + 1)).take k = s.L.eraseIdx i) := ⟨by
          rw [List.take_append_of_le_length (by rw [List.length_take]; omega), List.take_take, Nat.min_self, List.take_of_length_le (by omega)]⟩
        have hkc : (k : Int) ≤ (cap : Int) := by omega
        have hk0 : (0 : Int) ≤ (k : Int) := by omega
        go_wp2_with (fail)
        have e1 : (s.L.length : Int) - 1 = (k : Int) := by have := HLN.out; omega
        go_region
        go_wp2_with (fail)
        go_end0
        refine ⟨rfl, ?_, (HK.out.set _).drew 1⟩
        have hR := HR.out.2
        have hsh := hR.short (m := k) hlen.symm (by omega)
        rw [HTT.out, ← HT.out.1] at hsh
        refine ⟨.slice (some ⟨g, 0, none⟩) k cap, ?_, RF.kept hsh (Below.heap_setCell _ _ _ _ hne), HT.out.2⟩
        exact (heap_set HR.out.1 _).trans rfl
  · have HT := Aside0.mk (take_none s.L name (by cases hh : lk s.L name with | none => rfl | some v => rw [hh] at hs; exact absurd rfl hs))
    rw [Bool.eq_false_iff.2 hs] at HF
    have HR := Aside0.mk h
    clear h hs
    go_enter Tryz.func90, Tryz.ntmps90
    go_wp2_with (fail)
    refine HF.out.mono ?_
    rintro e w1 ⟨rfl, q, rfl⟩
    go_wp2_with (fail)
    go_end0
    refine ⟨rfl, ?_, (Kp.refl p g w).drew q⟩
    rw [HT.out]
    exact HR.out.drew q
end
section
theorem rlay_calls (p g : Nat) (s : St) (name bytes : ByteArray) (w : World) (h : RK w p g s) (hl : (lk s.L name).isSome = true ∨ s.L.length < 65536) (hb : bytes.size ≤ 16777216) : Calls Tryz.prog 71 #[.pointer (some ⟨p, 0, none⟩), .string name, .string bytes] w fun e w' => e = .returned (.tuple #[]) ∧ ∃ g', RK w' p g' { s with L := lay s.L name bytes } ∧ (g' = g ∨ w.heap.size ≤ g') ∧ Kp p g w w' := by
  by_cases hs : (lk s.L name).isSome = true
  · exact (rlay_is p g s name bytes w h hs hb).mono fun e w' ⟨h1, h2, h3⟩ => ⟨h1, g, h2, .inl rfl, h3⟩
  · rcases hl with hl | hl
    · exact absurd hl hs
    · exact rlay_new p g s name bytes w h (Bool.eq_false_iff.2 hs) hl hb
theorem Kp.via {p g g1 : Nat} {u v w : World} (h : Kp p g u v) (k : Kp p g1 v w) (hg : g1 = g ∨ u.heap.size ≤ g1) : Kp p g u w :=
  ⟨k.os.trans h.os, k.tape.trans h.tape, k.output.trans h.output, Nat.le_trans h.size k.size, fun i hi h1 h2 => (k.block i (Nat.lt_of_lt_of_le hi h.size) h1 (by
    rcases hg with rfl | hg
    · exact h2
    · omega)).trans (h.block i hi h1 h2)⟩
def retB (b : Bool) : Int := if b then 0 else 5
theorem addF_dead {s : St} {name r : ByteArray} (h : ¬ rawOk s) : addF s name r = ({ s with dead := true }, false) := by rw [addF, if_neg h]
theorem addF_last {s : St} {name r : ByteArray} (h : rawOk s) (h2 : r.size ≤ 32) : addF s name r = (pieceS s name r, true) := by rw [addF, if_pos h, if_pos h2, ByteArray.extract_zero_size]
theorem addF_more {s : St} {name r : ByteArray} (h : rawOk s) (h2 : ¬ r.size ≤ 32) : addF s name r = addF (pieceS s name (r.extract 0 32)) name (r.extract 32 r.size) := by rw [addF, if_pos h, if_neg h2]
set_option maxHeartbeats 16000000 in
set_option maxRecDepth 100000 in
theorem radds_calls (p g : Nat) (s : St) (name bytes : ByteArray) (w : World) (h : RK w p g s) (hd : s.dead = false) (hsz : (lkD s.L name).size + bytes.size ≤ 16777216) (hl : (lk s.L name).isSome = true ∨ s.L.length < 65536) : Calls Tryz.prog 66 #[.pointer (some ⟨p, 0, none⟩), .string name, .string bytes] w fun e w' => e = .returned (.int .i64 (retB (addF s name bytes).2)) ∧ ∃ g', RK w' p g' (addF s name bytes).1 ∧ (g' = g ∨ w.heap.size ≤ g') ∧ Kp p g w w' := by
  obtain ⟨tot, ht⟩ : ∃ t, addF s name bytes = t := ⟨_, rfl⟩
  have HT := Aside0.mk ht
  have HH := Aside0.mk h
  have HS := Aside0.mk (And.intro hd (And.intro hsz hl))
  rw [ht]
  clear ht h hd hsz hl
  go_enter Tryz.func66, Tryz.ntmps66
  go_wp2_with (fail)
  go_loopw [2] (fun v2 wr => ∃ (s1 : St) (r : ByteArray) (g1 : Nat), v2 = .string r ∧ Aside0 (RK wr p g1 s1 ∧ (g1 = g ∨ w.heap.size ≤ g1) ∧ Kp p g w wr ∧ s1.dead = false ∧ (lkD s1.L name).size + r.size ≤ 16777216 ∧ ((lk s1.L name).isSome = true ∨ s1.L.length < 65536) ∧ addF s1 name r = tot)) (fun v2 _ => match v2 with | .string r => r.size | _ => 0)
  case atStart => exact ⟨s, bytes, g, rfl, ⟨HH.out, .inl rfl, Kp.refl p g w, HS.out.1, HS.out.2.1, HS.out.2.2, HT.out⟩⟩
  case round =>
    obtain ⟨s1, r, g1, rfl, HX⟩ := hrel
    clear HH HS HT
    by_cases hraw : rawOk s1
    · obtain ⟨n, hn⟩ : ∃ n, n = min r.size 32 := ⟨_, rfl⟩
      have HN := Aside0.mk hn
      have hnr : n ≤ r.size := by omega
      have hni : (n : Int) ≤ (r.size : Int) := by omega
      have hn0 : (0 : Int) ≤ (n : Int) := by omega
      have hnx : (r.extract 0 n).size = n := by rw [ByteArray.size_extract]; omega
      have HNX := Aside0.mk hnx
      have hadd : ¬ 9223372036854775807 < (lkD s1.L name).size + (r.extract 0 n).size := by rw [hnx]; have := HX.out.2.2.2.2.1; omega
      have HRW := Aside0.mk hraw
      have hraw' := rraw_calls p g1 s1 wr HX.out.1 HX.out.2.2.2.1
      have HRC := Aside0.mk hraw'
      clear hn hraw hraw' hnx
      by_cases h32 : 32 < r.size
      · have h32' : (32 : Int) < (r.size : Int) := by omega
        have HN32 : Aside0 (n = 32) := ⟨by have := HN.out; omega⟩
        obtain rfl := HN32.out
        have hxs : (r.extract 32 r.size).size = r.size - 32 := by rw [ByteArray.size_extract]; omega
        have hne : ((r.extract 32 r.size).toList == []) = false := by
          rw [beq_eq_false_iff_ne]
          intro q
          have q2 := congrArg List.length q
          rw [ByteArray.toList_eq, Array.length_toList] at q2
          have q3 : (r.extract 32 r.size).size = 0 := q2
          omega
        have HXS := Aside0.mk hxs
        have H32 := Aside0.mk h32
        clear hxs h32
        go_wp2_with (fail)
        refine HRC.out.mono ?_
        rintro e w1 ⟨⟨_, rfl, hR1⟩ | ⟨hno, _⟩, hK1⟩
        rotate_left
        · exact absurd HRW.out hno
        have HR1 := Aside0.mk hR1
        have HK1 := Aside0.mk (HX.out.2.2.1.via hK1 HX.out.2.1)
        have hzw := hK1.size
        clear hR1 hK1
        go_upto_region 6 with fail
        go_cut [] (fun wx => Aside0 (∃ g2, RK wx p g2 (pieceS s1 name (r.extract 0 32)) ∧ (g2 = g ∨ w.heap.size ≤ g2) ∧ Kp p g w wx))
        case first =>
          have hnx := HNX.out
          first | (go_region_with (first
            | (go_at_call 64; refine (rbytes_calls p g1 { s1 with cnt := wrap64 (s1.cnt + 1) } name _ (by first | exact HR1.out | exact HR1.out.drew 1 | exact HR1.out.drew _)).mono ?_; rintro e w5 ⟨rfl, q, rfl⟩; have HR5 := Aside0.mk (HR1.out.drew (q + 1)))
            | (go_at_call 71; refine (rlay_calls p g1 { s1 with cnt := wrap64 (s1.cnt + 1) } name (lkD s1.L name ++ r.extract 0 32) _ (by first | exact HR1.out | exact HR1.out.drew 1 | exact HR1.out.drew _) HX.out.2.2.2.2.2.1 (by rw [ByteArray.size_append, HNX.out]; have := HX.out.2.2.2.2.1; have := HN.out; omega)).mono ?_; rintro e w6 ⟨rfl, g2, hR6, hg6, hK6⟩; have HC : Aside0 (∃ g2, RK w6 p g2 (pieceS s1 name (r.extract 0 32)) ∧ (g2 = g ∨ w.heap.size ≤ g2) ∧ Kp p g w w6) := ⟨g2, hR6, by
                have h1 := HX.out.2.1
                have h2 := HX.out.2.2.1.size
                rcases hg6 with rfl | h3
                · exact h1
                · right
                  have h4 := HK1.out.size
                  have h5 : w1.heap.size ≤ g2 := h3
                  omega, (show Kp p g w _ from HK1.out).via (w := w6) (show Kp p g1 w1 w6 from ⟨hK6.os, hK6.tape, hK6.output, hK6.size, hK6.block⟩) HX.out.2.1⟩; clear hR6 hg6 hK6))) | fail
          all_goals (go_wp2_with fail; go_meet; exact HC)
        case rest =>
          have HC := hcut
          clear hcut HRC HR1 HK1 hzw
          go_wp2_with (fail)
          go_roundw
          case measure => show (r.extract 32 r.size).size < r.size; rw [HXS.out]; have := H32.out; omega
          case rel =>
            obtain ⟨g2, h1, h2, h3⟩ := HC.out
            refine ⟨pieceS s1 name (r.extract 0 32), r.extract 32 r.size, g2, rfl, ⟨h1, h2, h3, HX.out.2.2.2.1, ?_, .inl (lk_lay_some _ _ _), ?_⟩⟩
            · show (lkD (lay s1.L name (lkD s1.L name ++ r.extract 0 32)) name).size + _ ≤ _
              rw [lkD_lay, ByteArray.size_append, HNX.out, HXS.out]
              have := HX.out.2.2.2.2.1
              have := H32.out
              omega
            · rw [← addF_more HRW.out (by have := H32.out; omega)]
              exact HX.out.2.2.2.2.2.2
      · have h32' : ¬ (32 : Int) < (r.size : Int) := by omega
        have HNR : Aside0 (n = r.size) := ⟨by have := HN.out; omega⟩
        obtain rfl := HNR.out
        clear hadd
        have hadd : ¬ 9223372036854775807 < (lkD s1.L name).size + r.size := by have := HX.out.2.2.2.2.1; omega
        have H32 := Aside0.mk h32
        clear h32
        go_wp2_with (fail)
        refine HRC.out.mono ?_
        rintro e w1 ⟨⟨_, rfl, hR1⟩ | ⟨hno, _⟩, hK1⟩
        rotate_left
        · exact absurd HRW.out hno
        have HR1 := Aside0.mk hR1
        have HK1 := Aside0.mk (HX.out.2.2.1.via hK1 HX.out.2.1)
        have hzw := hK1.size
        clear hR1 hK1
        go_upto_region 6 with fail
        go_cut [] (fun wx => Aside0 (∃ g2, RK wx p g2 (pieceS s1 name (r)) ∧ (g2 = g ∨ w.heap.size ≤ g2) ∧ Kp p g w wx))
        case first =>
          first | (go_region_with (first
            | (go_at_call 64; refine (rbytes_calls p g1 { s1 with cnt := wrap64 (s1.cnt + 1) } name _ (by first | exact HR1.out | exact HR1.out.drew 1 | exact HR1.out.drew _)).mono ?_; rintro e w5 ⟨rfl, q, rfl⟩; have HR5 := Aside0.mk (HR1.out.drew (q + 1)))
            | (go_at_call 71; refine (rlay_calls p g1 { s1 with cnt := wrap64 (s1.cnt + 1) } name (lkD s1.L name ++ r) _ (by first | exact HR1.out | exact HR1.out.drew 1 | exact HR1.out.drew _) HX.out.2.2.2.2.2.1 (by rw [ByteArray.size_append]; have := HX.out.2.2.2.2.1; omega)).mono ?_; rintro e w6 ⟨rfl, g2, hR6, hg6, hK6⟩; have HC : Aside0 (∃ g2, RK w6 p g2 (pieceS s1 name (r)) ∧ (g2 = g ∨ w.heap.size ≤ g2) ∧ Kp p g w w6) := ⟨g2, hR6, by
                have h1 := HX.out.2.1
                have h2 := HX.out.2.2.1.size
                rcases hg6 with rfl | h3
                · exact h1
                · right
                  have h4 := HK1.out.size
                  have h5 : w1.heap.size ≤ g2 := h3
                  omega, (show Kp p g w _ from HK1.out).via (w := w6) (show Kp p g1 w1 w6 from ⟨hK6.os, hK6.tape, hK6.output, hK6.size, hK6.block⟩) HX.out.2.1⟩; clear hR6 hg6 hK6))) | fail
          all_goals (go_wp2_with fail; go_meet; exact HC)
        case rest =>
          have HC := hcut
          clear hcut HRC HR1 HK1 hzw
          go_wp2_with (fail)
          go_ret
          have ht := HX.out.2.2.2.2.2.2
          rw [addF_last HRW.out (by have := H32.out; omega)] at ht
          rw [← ht]
          exact ⟨rfl, HC.out⟩
    · have HRC := Aside0.mk (rraw_calls p g1 s1 wr HX.out.1 HX.out.2.2.2.1)
      have HRW := Aside0.mk hraw
      clear hraw
      have hend : ∀ w1, RK w1 p g1 { s1 with dead := true } → Kp p g1 wr w1 → (∃ g', RK w1 p g' tot.1 ∧ (g' = g ∨ w.heap.size ≤ g') ∧ Kp p g w w1) ∧ tot.2 = false := by
        intro w1 hR hK
        have ht := HX.out.2.2.2.2.2.2
        rw [addF_dead HRW.out] at ht
        rw [← ht]
        exact ⟨⟨g1, hR, HX.out.2.1, HX.out.2.2.1.via hK HX.out.2.1⟩, rfl⟩
      have HEND := Aside0.mk hend
      clear hend
      by_cases h32 : 32 < r.size
      · have h32' : (32 : Int) < (r.size : Int) := by omega
        clear h32
        go_wp2_with (fail)
        refine HRC.out.mono ?_
        rintro e w1 ⟨⟨hyes, _⟩ | ⟨_, rfl, hR1⟩, hK1⟩
        · exact absurd hyes HRW.out
        have HE := Aside0.mk (HEND.out w1 hR1 hK1)
        clear hR1 hK1
        go_wp2_with (fail)
        go_ret
        exact ⟨by rw [HE.out.2]; rfl, HE.out.1⟩
      · have h32' : ¬ (32 : Int) < (r.size : Int) := by omega
        clear h32
        go_wp2_with (fail)
        refine HRC.out.mono ?_
        rintro e w1 ⟨⟨hyes, _⟩ | ⟨_, rfl, hR1⟩, hK1⟩
        · exact absurd hyes HRW.out
        have HE := Aside0.mk (HEND.out w1 hR1 hK1)
        clear hR1 hK1
        go_wp2_with (fail)
        go_ret
        exact ⟨by rw [HE.out.2]; rfl, HE.out.1⟩
end
section
theorem RF.sl {w : World} {p g : Nat} {v : Value} {L : FS} (h : RF w p g v L) : ∃ a cap, v = .slice a L.length cap := by
  rcases h.shape with ⟨h1, _, h3⟩ | ⟨cap, h1, _⟩
  · exact ⟨none, 0, by rw [h1, h3]; rfl⟩
  · exact ⟨_, _, h1⟩
theorem RK.cells' {w : World} {p g : Nat} {s : St} (h : RK w p g s) : ∃ a cap, (∀ q, (w.drewN q).cell? ⟨p, 0, none⟩ = some (.slice a s.L.length cap)) ∧ (∀ q, (w.drewN q).cell? ⟨p, 3, none⟩ = some (.bool s.dead)) := by
  obtain ⟨v, h1⟩ := h.rj
  obtain ⟨a, cap, rfl⟩ := h1.2.sl
  obtain ⟨c0, _, _, c3, _⟩ := h1.cells
  exact ⟨a, cap, fun _ => c0, fun _ => c3⟩
theorem removeF_eq {s : St} {name : ByteArray} {c : Nat} (h : thereC s name = c) (h0 : c ≠ 0) : removeF s name = (s, c) := by unfold removeF; rw [h, if_pos h0]
theorem removeF_yes {s : St} {name : ByteArray} (h : thereC s name = 0) (h2 : rawOk s) : removeF s name = ({ s with L := take s.L name, cnt := wrap64 (s.cnt + 1) }, 0) := by unfold removeF; rw [h, if_neg (by omega), if_pos h2]
theorem removeF_no {s : St} {name : ByteArray} (h : thereC s name = 0) (h2 : ¬ rawOk s) : removeF s name = ({ s with dead := true }, 5) := by unfold removeF; rw [h, if_neg (by omega), if_neg h2]
set_option maxHeartbeats 16000000 in
set_option maxRecDepth 100000 in
theorem rremove_calls (p g : Nat) (s : St) (name : ByteArray) (w : World) (h : RK w p g s) : Calls Tryz.prog 55 #[.pointer (some ⟨p, 0, none⟩), .string name] w fun e w' => e = .returned (.int .i64 (removeF s name).2) ∧ ∃ g', RK w' p g' (removeF s name).1 ∧ (g' = g ∨ w.heap.size ≤ g') ∧ Kp p g w w' := by
  obtain ⟨res, hres⟩ : ∃ t, removeF s name = t := ⟨_, rfl⟩
  rw [hres]
  have HR := Aside0.mk h
  obtain ⟨va, vc, c0, c3⟩ := h.cells'
  have c3' : w.cell? ⟨p, 3, none⟩ = some (.bool s.dead) := c3 0
  have HM := Aside0.mk ((rmay_calls name w).mono (R' := fun e w' => e = .returned (.bool (decide (¬ badN name))) ∧ w = w') fun _ _ h => ⟨h.1, h.2.symm⟩)
  by_cases hb : badN name
  · obtain rfl : (s, 2) = res := (removeF_eq (thereC_bad hb) (by omega)).symm.trans hres
    rw [decide_eq_false (fun q => q hb)] at HM
    clear hb hres c3 c3' h
    go_enter Tryz.func55, Tryz.ntmps55
    go_wp2_with (fail)
    refine HM.out.mono ?_
    rintro e w1 ⟨rfl, rfl⟩
    go_wp2_with (fail)
    go_ret
    exact ⟨rfl, g, HR.out, .inl rfl, Kp.refl p g w⟩
  · rw [decide_eq_true hb] at HM
    cases hd : s.dead
    case true =>
      obtain rfl : (s, 5) = res := (removeF_eq (thereC_dead hb hd) (by omega)).symm.trans hres
      rw [hd] at c3'
      clear hb hd hres c3 h
      go_enter Tryz.func55, Tryz.ntmps55
      go_wp2_with (fail)
      refine HM.out.mono ?_
      rintro e w1 ⟨rfl, rfl⟩
      go_wp2_with (fail)
      go_ret
      exact ⟨rfl, g, HR.out, .inl rfl, Kp.refl p g w⟩
    case false =>
      have HD := Aside0.mk hd
      rw [hd] at c3'
      cases hl : (lk s.L name).isSome
      case false =>
        obtain rfl : (s, 6) = res := (removeF_eq (thereC_none hb hd hl) (by omega)).symm.trans hres
        have HH : Aside0 (Calls Tryz.prog 65 #[.pointer (some ⟨p, 0, none⟩), .string name] w fun e w' => e = .returned (.bool false) ∧ ∃ q, w' = w.drewN q) := ⟨by have := rhas_calls p g s name w h; rw [hl] at this; exact this⟩
        clear hb hd hl hres c3 h
        go_enter Tryz.func55, Tryz.ntmps55
        go_wp2_with (fail)
        refine HM.out.mono ?_
        rintro e w1 ⟨rfl, rfl⟩
        go_wp2_with (fail)
        refine HH.out.mono ?_
        rintro e w1 ⟨rfl, q, rfl⟩
        go_wp2_with (fail)
        go_ret
        exact ⟨rfl, g, HR.out.drew q, .inl rfl, (Kp.refl p g w).drew q⟩
      case true =>
        have HH : Aside0 (Calls Tryz.prog 65 #[.pointer (some ⟨p, 0, none⟩), .string name] w fun e w' => e = .returned (.bool true) ∧ ∃ q, w' = w.drewN q) := ⟨by have := rhas_calls p g s name w h; rw [hl, hd] at this; exact this⟩
        have HL := Aside0.mk hl
        have h0 := thereC_some hb hd hl
        have H0 := Aside0.mk h0
        have HRES := Aside0.mk hres
        clear hb hd hl hres c3 h h0
        go_enter Tryz.func55, Tryz.ntmps55
        go_wp2_with (fail)
        refine HM.out.mono ?_
        rintro e w1 ⟨rfl, rfl⟩
        go_wp2_with (fail)
        refine HH.out.mono ?_
        rintro e w1 ⟨rfl, q, rfl⟩
        go_wp2_with (fail)
        refine (rraw_calls p g s _ (HR.out.drew q) HD.out).mono ?_
        rintro e w2 ⟨⟨hraw, rfl, hR2⟩ | ⟨hraw, rfl, hR2⟩, hK2⟩
        · have HK2 := Aside0.mk ((show Kp p g w _ from (Kp.refl p g w).drew q).trans hK2)
          have HR2 := Aside0.mk hR2
          have HRW := Aside0.mk hraw
          clear hR2 hK2 hraw
          go_wp2_with (fail)
          refine (rtake_calls p g _ name _ HR2.out).mono ?_
          rintro e w3 ⟨rfl, hR3, hK3⟩
          have HR3 := Aside0.mk hR3
          have HK3 := Aside0.mk hK3
          clear hR3 hK3
          go_wp2_with (fail)
          go_ret
          obtain rfl := (removeF_yes H0.out HRW.out).symm.trans HRES.out
          exact ⟨rfl, g, HR3.out, .inl rfl, HK2.out.trans HK3.out⟩
        · have HK2 := Aside0.mk ((show Kp p g w _ from (Kp.refl p g w).drew q).trans hK2)
          have HR2 := Aside0.mk hR2
          have HRW := Aside0.mk hraw
          clear hR2 hK2 hraw
          go_wp2_with (fail)
          go_ret
          obtain rfl := (removeF_no H0.out HRW.out).symm.trans HRES.out
          exact ⟨rfl, g, HR2.out, .inl rfl, HK2.out⟩
theorem truncF_eq {s : St} {name : ByteArray} {n : Int} {c : Nat} (h : thereC s name = c) (h0 : c ≠ 0) : truncF s name n = (s, c) := by unfold truncF; rw [h, if_pos h0]
theorem truncF_arg {s : St} {name : ByteArray} {n : Int} (h : thereC s name = 0) (h1 : n < 0 ∨ ((lkD s.L name).size : Int) < n) : truncF s name n = (s, 2) := by unfold truncF; rw [h, if_neg (by omega), if_pos h1]
theorem truncF_yes {s : St} {name : ByteArray} {n : Int} (h : thereC s name = 0) (h1 : ¬ (n < 0 ∨ ((lkD s.L name).size : Int) < n)) (h2 : rawOk s) : truncF s name n = ({ s with L := lay s.L name ((lkD s.L name).extract 0 n.toNat), cnt := wrap64 (s.cnt + 1) }, 0) := by unfold truncF; rw [h, if_neg (by omega), if_neg h1, if_pos h2]
theorem truncF_no {s : St} {name : ByteArray} {n : Int} (h : thereC s name = 0) (h1 : ¬ (n < 0 ∨ ((lkD s.L name).size : Int) < n)) (h2 : ¬ rawOk s) : truncF s name n = ({ s with dead := true }, 5) := by unfold truncF; rw [h, if_neg (by omega), if_neg h1, if_neg h2]
set_option maxHeartbeats 16000000 in
set_option maxRecDepth 100000 in
theorem rtrunc_calls (p g : Nat) (s : St) (name : ByteArray) (n : Int) (w : World) (h : RK w p g s) : Calls Tryz.prog 56 #[.pointer (some ⟨p, 0, none⟩), .string name, .int .i64 n] w fun e w' => e = .returned (.int .i64 (truncF s name n).2) ∧ ∃ g', RK w' p g' (truncF s name n).1 ∧ (g' = g ∨ w.heap.size ≤ g') ∧ Kp p g w w' := by
  obtain ⟨res, hres⟩ : ∃ t, truncF s name n = t := ⟨_, rfl⟩
  rw [hres]
  have HR := Aside0.mk h
  obtain ⟨va, vc, c0, c3⟩ := h.cells'
  have c3' : w.cell? ⟨p, 3, none⟩ = some (.bool s.dead) := c3 0
  have HM := Aside0.mk ((rmay_calls name w).mono (R' := fun e w' => e = .returned (.bool (decide (¬ badN name))) ∧ w = w') fun _ _ h => ⟨h.1, h.2.symm⟩)
  by_cases hb : badN name
  · obtain rfl : (s, 2) = res := (truncF_eq (thereC_bad hb) (by omega)).symm.trans hres
    rw [decide_eq_false (fun q => q hb)] at HM
    clear hb hres c3 c3' h
    go_enter Tryz.func56, Tryz.ntmps56
    go_wp2_with (fail)
    refine HM.out.mono ?_
    rintro e w1 ⟨rfl, rfl⟩
    go_wp2_with (fail)
    go_ret
    exact ⟨rfl, g, HR.out, .inl rfl, Kp.refl p g w⟩
  · rw [decide_eq_true hb] at HM
    cases hd : s.dead
    case true =>
      obtain rfl : (s, 5) = res := (truncF_eq (thereC_dead hb hd) (by omega)).symm.trans hres
      rw [hd] at c3'
      clear hb hd hres c3 h
      go_enter Tryz.func56, Tryz.ntmps56
      go_wp2_with (fail)
      refine HM.out.mono ?_
      rintro e w1 ⟨rfl, rfl⟩
      go_wp2_with (fail)
      go_ret
      exact ⟨rfl, g, HR.out, .inl rfl, Kp.refl p g w⟩
    case false =>
      have HD := Aside0.mk hd
      rw [hd] at c3'
      cases hl : (lk s.L name).isSome
      case false =>
        obtain rfl : (s, 6) = res := (truncF_eq (thereC_none hb hd hl) (by omega)).symm.trans hres
        have HH : Aside0 (Calls Tryz.prog 65 #[.pointer (some ⟨p, 0, none⟩), .string name] w fun e w' => e = .returned (.bool false) ∧ ∃ q, w' = w.drewN q) := ⟨by have := rhas_calls p g s name w h; rw [hl] at this; exact this⟩
        clear hb hd hl hres c3 h
        go_enter Tryz.func56, Tryz.ntmps56
        go_wp2_with (fail)
        refine HM.out.mono ?_
        rintro e w1 ⟨rfl, rfl⟩
        go_wp2_with (fail)
        refine HH.out.mono ?_
        rintro e w1 ⟨rfl, q, rfl⟩
        go_wp2_with (fail)
        go_ret
        exact ⟨rfl, g, HR.out.drew q, .inl rfl, (Kp.refl p g w).drew q⟩
      case true =>
        have HH : Aside0 (Calls Tryz.prog 65 #[.pointer (some ⟨p, 0, none⟩), .string name] w fun e w' => e = .returned (.bool true) ∧ ∃ q, w' = w.drewN q) := ⟨by have := rhas_calls p g s name w h; rw [hl, hd] at this; exact this⟩
        have HL := Aside0.mk hl
        have h0 := thereC_some hb hd hl
        have hsz := lk_size h.okf.2.2 name
        by_cases hn0 : n < 0
        · obtain rfl : (s, 2) = res := (truncF_arg h0 (.inl hn0)).symm.trans hres
          clear hb hd hl hres c3 h h0
          go_enter Tryz.func56, Tryz.ntmps56
          go_wp2_with (fail)
          refine HM.out.mono ?_
          rintro e w1 ⟨rfl, rfl⟩
          go_wp2_with (fail)
          refine HH.out.mono ?_
          rintro e w1 ⟨rfl, q, rfl⟩
          go_wp2_with (fail)
          go_ret
          exact ⟨rfl, g, HR.out.drew q, .inl rfl, (Kp.refl p g w).drew q⟩
        · by_cases hn1 : ((lkD s.L name).size : Int) < n
          · obtain rfl : (s, 2) = res := (truncF_arg h0 (.inr hn1)).symm.trans hres
            clear hb hd hl hres c3 h h0
            go_enter Tryz.func56, Tryz.ntmps56
            go_wp2_with (fail)
            refine HM.out.mono ?_
            rintro e w1 ⟨rfl, rfl⟩
            go_wp2_with (fail)
            refine HH.out.mono ?_
            rintro e w1 ⟨rfl, q, rfl⟩
            go_wp2_with (fail)
            refine (rbytes_calls p g s name _ (HR.out.drew q)).mono ?_
            rintro e w1 ⟨rfl, q2, rfl⟩
            go_wp2_with (fail)
            go_ret
            exact ⟨rfl, g, by first | exact HR.out.drew _ | exact (HR.out.drew _).drew _, .inl rfl, by first | exact (Kp.refl p g w).drew _ | exact ((Kp.refl p g w).drew _).drew _⟩
          · obtain ⟨k, rfl⟩ : ∃ k : Nat, n = k := ⟨n.toNat, by omega⟩
            have H1 := Aside0.mk (show ¬ ((k : Int) < 0 ∨ ((lkD s.L name).size : Int) < (k : Int)) by omega)
            have H0 := Aside0.mk h0
            have HRES := Aside0.mk hres
            have hk : k ≤ (lkD s.L name).size := by omega
            have HEX : Aside0 (((lkD s.L name).extract 0 k).size ≤ 16777216) := ⟨by rw [ByteArray.size_extract]; omega⟩
            have hki : (k : Int) ≤ ((lkD s.L name).size : Int) := by omega
            clear hb hd hl hres c3 h h0 hsz hn0 hk
            go_enter Tryz.func56, Tryz.ntmps56
            go_wp2_with (fail)
            refine HM.out.mono ?_
            rintro e w1 ⟨rfl, rfl⟩
            go_wp2_with (fail)
            refine HH.out.mono ?_
            rintro e w1 ⟨rfl, q, rfl⟩
            go_wp2_with (fail)
            refine (rbytes_calls p g s name _ (HR.out.drew q)).mono ?_
            rintro e w1 ⟨rfl, q2, rfl⟩
            go_wp2_with (fail)
            refine (rraw_calls p g s _ (by first | exact HR.out.drew _ | exact (HR.out.drew _).drew _) HD.out).mono ?_
            rintro e w2 ⟨⟨hraw, rfl, hR2⟩ | ⟨hraw, rfl, hR2⟩, hK2⟩
            · have HK2 := Aside0.mk ((show Kp p g w _ from by first | exact (Kp.refl p g w).drew _ | exact ((Kp.refl p g w).drew _).drew _).trans hK2)
              have HR2 := Aside0.mk hR2
              have HRW := Aside0.mk hraw
              clear hR2 hK2 hraw
              go_wp2_with (fail)
              refine (rbytes_calls p g _ name _ HR2.out).mono ?_
              rintro e w4 ⟨rfl, q4, rfl⟩
              go_wp2_with (fail)
              refine (rlay_calls p g { s with cnt := wrap64 (s.cnt + 1) } name ((lkD s.L name).extract 0 k) _ (HR2.out.drew q4) (.inl HL.out) HEX.out).mono ?_
              rintro e w3 ⟨rfl, g2, hR3, hg3, hK3⟩
              have HR3 := Aside0.mk hR3
              have HK3 := Aside0.mk (HK2.out.via (((Kp.refl p g w2).drew q4).trans hK3) (.inl rfl))
              have HG3 := Aside0.mk hg3
              clear hR3 hK3 hg3
              go_wp2_with (fail)
              go_ret
              obtain rfl := (truncF_yes H0.out H1.out HRW.out).symm.trans HRES.out
              exact ⟨rfl, g2, HR3.out, HG3.out.imp id (fun q => Nat.le_trans HK2.out.size q), HK3.out⟩
            · have HK2 := Aside0.mk ((show Kp p g w _ from by first | exact (Kp.refl p g w).drew _ | exact ((Kp.refl p g w).drew _).drew _).trans hK2)
              have HR2 := Aside0.mk hR2
              have HRW := Aside0.mk hraw
              clear hR2 hK2 hraw
              go_wp2_with (fail)
              go_ret
              obtain rfl := (truncF_no H0.out H1.out HRW.out).symm.trans HRES.out
              exact ⟨rfl, g, HR2.out, .inl rfl, HK2.out⟩
end
section
theorem ableC_dead {s : St} {name : ByteArray} (h : ¬ badN name) (hd : s.dead = true) : ableC s name = 5 := by rw [ableC_ok h, hd]; rfl
theorem ableC_live {s : St} {name : ByteArray} (h : ¬ badN name) (hd : s.dead = false) : ableC s name = 0 := by rw [ableC_ok h, hd]; rfl
theorem retB_eq (b : Bool) : retB b = (((if b = true then 0 else 5 : Nat)) : Int) := by cases b <;> rfl
theorem appendF_eq {s : St} {name bytes : ByteArray} {c : Nat} (h : ableC s name = c) (h0 : c ≠ 0) : appendF s name bytes = (s, c) := by unfold appendF; rw [h, if_pos h0]
theorem appendF_room {s : St} {name bytes : ByteArray} (h : ableC s name = 0) (h1 : roomB s name ((lkD s.L name).size + bytes.size) = false) : appendF s name bytes = (s, 4) := by unfold appendF; rw [h, if_neg (by omega), if_neg (by rw [h1]; decide)]
theorem appendF_ok {s : St} {name bytes : ByteArray} (h : ableC s name = 0) (h1 : roomB s name ((lkD s.L name).size + bytes.size) = true) : appendF s name bytes = ((addF s name bytes).1, if (addF s name bytes).2 = true then 0 else 5) := by unfold appendF; rw [h, if_neg (by omega), if_pos h1]
theorem putF_eq {s : St} {name bytes : ByteArray} {c : Nat} (h : ableC s name = c) (h0 : c ≠ 0) : putF s name bytes = (s, c) := by unfold putF; rw [h, if_pos h0]
theorem putF_room {s : St} {name bytes : ByteArray} (h : ableC s name = 0) (h1 : roomB s name bytes.size = false) : putF s name bytes = (s, 4) := by unfold putF; rw [h, if_neg (by omega), if_neg (by rw [h1]; decide)]
theorem putF_no {s : St} {name bytes : ByteArray} (h : ableC s name = 0) (h1 : roomB s name bytes.size = true) (h2 : ¬ rawOk s) : putF s name bytes = ({ s with dead := true }, 5) := by unfold putF; rw [h, if_neg (by omega), if_pos h1]; unfold putR; rw [if_neg h2]; rfl
theorem putF_empty {s : St} {name bytes : ByteArray} (h : ableC s name = 0) (h1 : roomB s name bytes.size = true) (h2 : rawOk s) (h3 : bytes.size = 0) : putF s name bytes = (putS s name, 0) := by unfold putF; rw [h, if_neg (by omega), if_pos h1]; unfold putR; rw [if_pos h2, if_pos h3]; rfl
theorem putF_more {s : St} {name bytes : ByteArray} (h : ableC s name = 0) (h1 : roomB s name bytes.size = true) (h2 : rawOk s) (h3 : ¬ bytes.size = 0) : putF s name bytes = ((addF (putS s name) name bytes).1, if (addF (putS s name) name bytes).2 = true then 0 else 5) := by unfold putF; rw [h, if_neg (by omega), if_pos h1]; unfold putR; rw [if_pos h2, if_neg h3]
theorem roomB_long {s : St} {name : ByteArray} {n : Nat} (h : 16777216 < n) : roomB s name n = false := by unfold roomB; rw [decide_eq_false (by omega)]; rfl
theorem roomB_full {s : St} {name : ByteArray} {n : Nat} (h : n ≤ 16777216) (h1 : (lk s.L name).isSome = false) (h2 : ¬ s.L.length < 65536) : roomB s name n = false := by unfold roomB; rw [h1, decide_eq_false h2]; simp
theorem roomB_ok {s : St} {name : ByteArray} {n : Nat} (h : n ≤ 16777216) (h1 : (lk s.L name).isSome = true ∨ s.L.length < 65536) : roomB s name n = true := by
  unfold roomB
  rw [decide_eq_true h]
  rcases h1 with h1 | h1
  · rw [h1]; rfl
  · rw [decide_eq_true h1]; simp
set_option maxHeartbeats 16000000 in
set_option maxRecDepth 100000 in
theorem rappend_calls (p g : Nat) (s : St) (name bytes : ByteArray) (w : World) (h : RK w p g s) (hbz : bytes.size ≤ 140737488351232) : Calls Tryz.prog 27 #[.pointer (some ⟨p, 0, none⟩), .string name, .string bytes] w fun e w' => e = .returned (.int .i64 (appendF s name bytes).2) ∧ ∃ g', RK w' p g' (appendF s name bytes).1 ∧ (g' = g ∨ w.heap.size ≤ g') ∧ Kp p g w w' := by
  obtain ⟨res, hres⟩ : ∃ t, appendF s name bytes = t := ⟨_, rfl⟩
  rw [hres]
  have HR := Aside0.mk h
  obtain ⟨va, vc, c0, c3⟩ := h.cells'
  have c3' : w.cell? ⟨p, 3, none⟩ = some (.bool s.dead) := c3 0
  have HM := Aside0.mk ((rmay_calls name w).mono (R' := fun e w' => e = .returned (.bool (decide (¬ badN name))) ∧ w = w') fun _ _ h => ⟨h.1, h.2.symm⟩)
  by_cases hb : badN name
  · obtain rfl : (s, 2) = res := (appendF_eq (ableC_bad hb) (by omega)).symm.trans hres
    rw [decide_eq_false (fun q => q hb)] at HM
    clear hb hres c3 c3' h
    go_enter Tryz.func27, Tryz.ntmps27
    go_wp2_with (fail)
    refine HM.out.mono ?_
    rintro e w1 ⟨rfl, rfl⟩
    go_wp2_with (fail)
    go_ret
    exact ⟨rfl, g, HR.out, .inl rfl, Kp.refl p g w⟩
  · rw [decide_eq_true hb] at HM
    cases hd : s.dead
    case true =>
      obtain rfl : (s, 5) = res := (appendF_eq (ableC_dead hb hd) (by omega)).symm.trans hres
      rw [hd] at c3'
      clear hb hd hres c3 h
      go_enter Tryz.func27, Tryz.ntmps27
      go_wp2_with (fail)
      refine HM.out.mono ?_
      rintro e w1 ⟨rfl, rfl⟩
      go_wp2_with (fail)
      go_ret
      exact ⟨rfl, g, HR.out, .inl rfl, Kp.refl p g w⟩
    case false =>
      have HD := Aside0.mk hd
      rw [hd] at c3'
      have h0 := ableC_live hb hd
      have hlz := lk_size h.okf.2.2 name
      have hlz' : ((lkD s.L name).size : Int) ≤ 16777216 := by omega
      have hbz' : (bytes.size : Int) ≤ 140737488351232 := by omega
      have HB := Aside0.mk (rbytes_calls p g s name w h)
      by_cases h1 : 16777216 < (lkD s.L name).size + bytes.size
      · obtain rfl : (s, 4) = res := (appendF_room h0 (roomB_long h1)).symm.trans hres
        have h1' : (16777216 : Int) < ((lkD s.L name).size : Int) + (bytes.size : Int) := by omega
        clear hb hd hres c3 h h0 h1 hlz hbz
        go_enter Tryz.func27, Tryz.ntmps27
        go_wp2_with (fail)
        refine HM.out.mono ?_
        rintro e w1 ⟨rfl, rfl⟩
        go_wp2_with (fail)
        refine HB.out.mono ?_
        rintro e w1 ⟨rfl, q, rfl⟩
        go_wp2_with (fail)
        go_ret
        exact ⟨rfl, g, by first | exact HR.out | exact HR.out.drew _ | exact (HR.out.drew _).drew _, .inl rfl, by first | exact Kp.refl p g w | exact (Kp.refl p g w).drew _ | exact ((Kp.refl p g w).drew _).drew _⟩
      · have h1' : ¬ (16777216 : Int) < ((lkD s.L name).size : Int) + (bytes.size : Int) := by omega
        have HS : Aside0 ((lkD s.L name).size + bytes.size ≤ 16777216) := ⟨by omega⟩
        have H0 := Aside0.mk h0
        cases hl : (lk s.L name).isSome
        case true =>
          have HO : Aside0 ((lk s.L name).isSome = true ∨ s.L.length < 65536) := ⟨.inl hl⟩
          have HH : Aside0 (∀ q, Calls Tryz.prog 65 #[.pointer (some ⟨p, 0, none⟩), .string name] (w.drewN q) fun e w' => e = .returned (.bool true) ∧ ∃ q', w' = (w.drewN q).drewN q') := ⟨fun q => by have := rhas_calls p g s name (w.drewN q) (h.drew q); rw [hl, hd] at this; exact this⟩
          have HRES := Aside0.mk hres
          clear hb hd hl hres c3 h h0 h1 hlz hbz
          go_enter Tryz.func27, Tryz.ntmps27
          go_wp2_with (fail)
          refine HM.out.mono ?_
          rintro e w1 ⟨rfl, rfl⟩
          go_wp2_with (fail)
          refine HB.out.mono ?_
          rintro e w1 ⟨rfl, q, rfl⟩
          go_wp2_with (fail)
          refine (HH.out q).mono ?_
          rintro e w1 ⟨rfl, q2, rfl⟩
          go_wp2_with (fail)
          refine (radds_calls p g s name bytes _ (by first | exact HR.out | exact HR.out.drew _ | exact (HR.out.drew _).drew _) HD.out HS.out HO.out).mono ?_
          rintro e w5 ⟨rfl, g5, hR5, hg5, hK5⟩
          have HR5 := Aside0.mk hR5
          have HK5 := Aside0.mk ((show Kp p g w _ from by first | exact Kp.refl p g w | exact (Kp.refl p g w).drew _ | exact ((Kp.refl p g w).drew _).drew _).trans hK5)
          have HG5 := Aside0.mk (show g5 = g ∨ w.heap.size ≤ g5 from hg5)
          clear hR5 hK5 hg5
          go_wp2_with (fail)
          go_ret
          obtain rfl := (appendF_ok H0.out (roomB_ok HS.out HO.out)).symm.trans HRES.out
          exact ⟨congrArg (fun z => Ending.returned (.int .i64 z)) (retB_eq _), g5, HR5.out, HG5.out, HK5.out⟩
        case false =>
          have HH : Aside0 (∀ q, Calls Tryz.prog 65 #[.pointer (some ⟨p, 0, none⟩), .string name] (w.drewN q) fun e w' => e = .returned (.bool false) ∧ ∃ q', w' = (w.drewN q).drewN q') := ⟨fun q => by have := rhas_calls p g s name (w.drewN q) (h.drew q); rw [hl] at this; exact this⟩
          by_cases h2 : s.L.length < 65536
          · have HO : Aside0 ((lk s.L name).isSome = true ∨ s.L.length < 65536) := ⟨.inr h2⟩
            have h2' : decide ((65536 : Int) ≤ (s.L.length : Int)) = false := decide_eq_false (by omega)
            have HRES := Aside0.mk hres
            clear hb hd hl hres c3 h h0 h1 h2 hlz hbz
            go_enter Tryz.func27, Tryz.ntmps27
            go_wp2_with (fail)
            refine HM.out.mono ?_
            rintro e w1 ⟨rfl, rfl⟩
            go_wp2_with (fail)
            refine HB.out.mono ?_
            rintro e w1 ⟨rfl, q, rfl⟩
            go_wp2_with (fail)
            refine (HH.out q).mono ?_
            rintro e w1 ⟨rfl, q2, rfl⟩
            go_wp2_with (fail)
            refine (radds_calls p g s name bytes _ (by first | exact HR.out | exact HR.out.drew _ | exact (HR.out.drew _).drew _) HD.out HS.out HO.out).mono ?_
            rintro e w5 ⟨rfl, g5, hR5, hg5, hK5⟩
            have HR5 := Aside0.mk hR5
            have HK5 := Aside0.mk ((show Kp p g w _ from by first | exact Kp.refl p g w | exact (Kp.refl p g w).drew _ | exact ((Kp.refl p g w).drew _).drew _).trans hK5)
            have HG5 := Aside0.mk (show g5 = g ∨ w.heap.size ≤ g5 from hg5)
            clear hR5 hK5 hg5
            go_wp2_with (fail)
            go_ret
            obtain rfl := (appendF_ok H0.out (roomB_ok HS.out HO.out)).symm.trans HRES.out
            exact ⟨congrArg (fun z => Ending.returned (.int .i64 z)) (retB_eq _), g5, HR5.out, HG5.out, HK5.out⟩
          · obtain rfl : (s, 4) = res := (appendF_room h0 (roomB_full HS.out hl h2)).symm.trans hres
            have h2' : (65536 : Int) ≤ (s.L.length : Int) := by omega
            clear hb hd hl hres c3 h h0 h1 h2 hlz hbz
            go_enter Tryz.func27, Tryz.ntmps27
            go_wp2_with (fail)
            refine HM.out.mono ?_
            rintro e w1 ⟨rfl, rfl⟩
            go_wp2_with (fail)
            refine HB.out.mono ?_
            rintro e w1 ⟨rfl, q, rfl⟩
            go_wp2_with (fail)
            refine (HH.out q).mono ?_
            rintro e w1 ⟨rfl, q2, rfl⟩
            go_wp2_with (fail)
            go_ret
            exact ⟨rfl, g, by first | exact HR.out | exact HR.out.drew _ | exact (HR.out.drew _).drew _, .inl rfl, by first | exact Kp.refl p g w | exact (Kp.refl p g w).drew _ | exact ((Kp.refl p g w).drew _).drew _⟩
set_option maxHeartbeats 16000000 in
set_option maxRecDepth 100000 in
theorem rput_calls (p g : Nat) (s : St) (name bytes : ByteArray) (w : World) (h : RK w p g s) (hbz : bytes.size ≤ 140737488351232) : Calls Tryz.prog 29 #[.pointer (some ⟨p, 0, none⟩), .string name, .string bytes] w fun e w' => e = .returned (.int .i64 (putF s name bytes).2) ∧ ∃ g', RK w' p g' (putF s name bytes).1 ∧ (g' = g ∨ w.heap.size ≤ g') ∧ Kp p g w w' := by
  obtain ⟨res, hres⟩ : ∃ t, putF s name bytes = t := ⟨_, rfl⟩
  rw [hres]
  have HR := Aside0.mk h
  obtain ⟨va, vc, c0, c3⟩ := h.cells'
  have c3' : w.cell? ⟨p, 3, none⟩ = some (.bool s.dead) := c3 0
  have HM := Aside0.mk ((rmay_calls name w).mono (R' := fun e w' => e = .returned (.bool (decide (¬ badN name))) ∧ w = w') fun _ _ h => ⟨h.1, h.2.symm⟩)
  by_cases hb : badN name
  · obtain rfl : (s, 2) = res := (putF_eq (ableC_bad hb) (by omega)).symm.trans hres
    rw [decide_eq_false (fun q => q hb)] at HM
    clear hb hres c3 c3' h
    go_enter Tryz.func29, Tryz.ntmps29
    go_wp2_with (fail)
    refine HM.out.mono ?_
    rintro e w1 ⟨rfl, rfl⟩
    go_wp2_with (fail)
    go_ret
    exact ⟨rfl, g, HR.out, .inl rfl, Kp.refl p g w⟩
  · rw [decide_eq_true hb] at HM
    cases hd : s.dead
    case true =>
      obtain rfl : (s, 5) = res := (putF_eq (ableC_dead hb hd) (by omega)).symm.trans hres
      rw [hd] at c3'
      clear hb hd hres c3 h
      go_enter Tryz.func29, Tryz.ntmps29
      go_wp2_with (fail)
      refine HM.out.mono ?_
      rintro e w1 ⟨rfl, rfl⟩
      go_wp2_with (fail)
      go_ret
      exact ⟨rfl, g, HR.out, .inl rfl, Kp.refl p g w⟩
    case false =>
      have HD := Aside0.mk hd
      rw [hd] at c3'
      have h0 := ableC_live hb hd
      have hlz := lk_size h.okf.2.2 name
      have hlz' : ((lkD s.L name).size : Int) ≤ 16777216 := by omega
      have hbz' : (bytes.size : Int) ≤ 140737488351232 := by omega
      by_cases h1 : 16777216 < bytes.size
      · obtain rfl : (s, 4) = res := (putF_room h0 (roomB_long h1)).symm.trans hres
        have h1' : (16777216 : Int) < (bytes.size : Int) := by omega
        clear hb hd hres c3 h h0 h1 hlz hbz
        go_enter Tryz.func29, Tryz.ntmps29
        go_wp2_with (fail)
        refine HM.out.mono ?_
        rintro e w1 ⟨rfl, rfl⟩
        go_wp2_with (fail)
        go_ret
        exact ⟨rfl, g, by first | exact HR.out | exact HR.out.drew _ | exact (HR.out.drew _).drew _, .inl rfl, by first | exact Kp.refl p g w | exact (Kp.refl p g w).drew _ | exact ((Kp.refl p g w).drew _).drew _⟩
      · have h1' : ¬ (16777216 : Int) < (bytes.size : Int) := by omega
        have HS : Aside0 (bytes.size ≤ 16777216) := ⟨by omega⟩
        have H0 := Aside0.mk h0
        cases hl : (lk s.L name).isSome
        case true =>
          have HO : Aside0 ((lk s.L name).isSome = true ∨ s.L.length < 65536) := ⟨.inl hl⟩
          have HH : Aside0 (∀ q, Calls Tryz.prog 65 #[.pointer (some ⟨p, 0, none⟩), .string name] (w.drewN q) fun e w' => e = .returned (.bool true) ∧ ∃ q', w' = (w.drewN q).drewN q') := ⟨fun q => by have := rhas_calls p g s name (w.drewN q) (h.drew q); rw [hl, hd] at this; exact this⟩
          have HRES := Aside0.mk hres
          clear hb hd hl hres c3 h h0 h1 hlz hbz
          go_enter Tryz.func29, Tryz.ntmps29
          go_wp2_with (fail)
          refine HM.out.mono ?_
          rintro e w1 ⟨rfl, rfl⟩
          go_wp2_with (fail)
          refine (HH.out 0).mono ?_
          rintro e w1 ⟨rfl, q2, rfl⟩
          go_wp2_with (fail)
          refine (rraw_calls p g s _ (by first | exact HR.out | exact HR.out.drew _ | exact (HR.out.drew _).drew _) HD.out).mono ?_
          rintro e w2 ⟨⟨hraw, rfl, hR2⟩ | ⟨hraw, rfl, hR2⟩, hK2⟩
          · have HK2 := Aside0.mk ((show Kp p g w _ from by first | exact Kp.refl p g w | exact (Kp.refl p g w).drew _ | exact ((Kp.refl p g w).drew _).drew _).trans hK2)
            have HR2 := Aside0.mk hR2
            have HRW := Aside0.mk hraw
            clear hR2 hK2 hraw
            go_wp2_with (fail)
            refine (rlay_calls p g { s with cnt := wrap64 (s.cnt + 1) } name ⟨#[]⟩ _ HR2.out HO.out (by decide)).mono ?_
            rintro e w3 ⟨rfl, g2, hR3, hg3, hK3⟩
            have HR3 := Aside0.mk (show RK w3 p g2 (putS s name) from hR3)
            have HG3 := Aside0.mk (show g2 = g ∨ w.heap.size ≤ g2 from hg3.imp id (fun q => Nat.le_trans HK2.out.size q))
            have HK3 := Aside0.mk (HK2.out.trans hK3)
            clear hR3 hK3 hg3
            by_cases hz : bytes.size = 0
            · obtain rfl : bytes = ⟨#[]⟩ := tl_inj (List.length_eq_zero_iff.1 (by rw [Array.length_toList]; exact hz))
              clear hz
              go_wp2_with (fail)
              go_ret
              obtain rfl := (putF_empty H0.out (roomB_ok HS.out HO.out) HRW.out rfl).symm.trans HRES.out
              exact ⟨rfl, g2, HR3.out, HG3.out, HK3.out⟩
            · have HZ := Aside0.mk hz
              have hne : (bytes.toList == []) = false := by
                rw [beq_eq_false_iff_ne]
                intro q
                have q2 := congrArg List.length q
                rw [ByteArray.toList_eq, Array.length_toList] at q2
                exact hz q2
              clear hz
              go_wp2_with (fail)
              refine (radds_calls p g2 (putS s name) name bytes _ HR3.out HD.out (by rw [show lkD (putS s name).L name = ⟨#[]⟩ from lkD_lay _ _ _]; have := HS.out; show 0 + _ ≤ _; omega) (.inl (lk_lay_some _ _ _))).mono ?_
              rintro e w5 ⟨rfl, g5, hR5, hg5, hK5⟩
              have HR5 := Aside0.mk hR5
              have HG5 := Aside0.mk (show g5 = g ∨ w.heap.size ≤ g5 from by
                rcases hg5 with rfl | h5
                · exact HG3.out
                · exact .inr (Nat.le_trans HK3.out.size h5))
              have HK5 := Aside0.mk (HK3.out.via hK5 HG3.out)
              clear hR5 hK5 hg5
              go_wp2_with (fail)
              go_ret
              obtain rfl := (putF_more H0.out (roomB_ok HS.out HO.out) HRW.out HZ.out).symm.trans HRES.out
              exact ⟨congrArg (fun z => Ending.returned (.int .i64 z)) (retB_eq _), g5, HR5.out, HG5.out, HK5.out⟩
          · have HK2 := Aside0.mk ((show Kp p g w _ from by first | exact Kp.refl p g w | exact (Kp.refl p g w).drew _ | exact ((Kp.refl p g w).drew _).drew _).trans hK2)
            have HR2 := Aside0.mk hR2
            have HRW := Aside0.mk hraw
            clear hR2 hK2 hraw
            go_wp2_with (fail)
            go_ret
            obtain rfl := (putF_no H0.out (roomB_ok HS.out HO.out) HRW.out).symm.trans HRES.out
            exact ⟨rfl, g, HR2.out, .inl rfl, HK2.out⟩
        case false =>
          have HH : Aside0 (∀ q, Calls Tryz.prog 65 #[.pointer (some ⟨p, 0, none⟩), .string name] (w.drewN q) fun e w' => e = .returned (.bool false) ∧ ∃ q', w' = (w.drewN q).drewN q') := ⟨fun q => by have := rhas_calls p g s name (w.drewN q) (h.drew q); rw [hl] at this; exact this⟩
          by_cases h2 : s.L.length < 65536
          · have HO : Aside0 ((lk s.L name).isSome = true ∨ s.L.length < 65536) := ⟨.inr h2⟩
            have h2' : decide ((65536 : Int) ≤ (s.L.length : Int)) = false := decide_eq_false (by omega)
            have HRES := Aside0.mk hres
            clear hb hd hl hres c3 h h0 h1 h2 hlz hbz
            go_enter Tryz.func29, Tryz.ntmps29
            go_wp2_with (fail)
            refine HM.out.mono ?_
            rintro e w1 ⟨rfl, rfl⟩
            go_wp2_with (fail)
            refine (HH.out 0).mono ?_
            rintro e w1 ⟨rfl, q2, rfl⟩
            go_wp2_with (fail)
            refine (rraw_calls p g s _ (by first | exact HR.out | exact HR.out.drew _ | exact (HR.out.drew _).drew _) HD.out).mono ?_
            rintro e w2 ⟨⟨hraw, rfl, hR2⟩ | ⟨hraw, rfl, hR2⟩, hK2⟩
            · have HK2 := Aside0.mk ((show Kp p g w _ from by first | exact Kp.refl p g w | exact (Kp.refl p g w).drew _ | exact ((Kp.refl p g w).drew _).drew _).trans hK2)
              have HR2 := Aside0.mk hR2
              have HRW := Aside0.mk hraw
              clear hR2 hK2 hraw
              go_wp2_with (fail)
              refine (rlay_calls p g { s with cnt := wrap64 (s.cnt + 1) } name ⟨#[]⟩ _ HR2.out HO.out (by decide)).mono ?_
              rintro e w3 ⟨rfl, g2, hR3, hg3, hK3⟩
              have HR3 := Aside0.mk (show RK w3 p g2 (putS s name) from hR3)
              have HG3 := Aside0.mk (show g2 = g ∨ w.heap.size ≤ g2 from hg3.imp id (fun q => Nat.le_trans HK2.out.size q))
              have HK3 := Aside0.mk (HK2.out.trans hK3)
              clear hR3 hK3 hg3
              by_cases hz : bytes.size = 0
              · obtain rfl : bytes = ⟨#[]⟩ := tl_inj (List.length_eq_zero_iff.1 (by rw [Array.length_toList]; exact hz))
                clear hz
                go_wp2_with (fail)
                go_ret
                obtain rfl := (putF_empty H0.out (roomB_ok HS.out HO.out) HRW.out rfl).symm.trans HRES.out
                exact ⟨rfl, g2, HR3.out, HG3.out, HK3.out⟩
              · have HZ := Aside0.mk hz
                have hne : (bytes.toList == []) = false := by
                  rw [beq_eq_false_iff_ne]
                  intro q
                  have q2 := congrArg List.length q
                  rw [ByteArray.toList_eq, Array.length_toList] at q2
                  exact hz q2
                clear hz
                go_wp2_with (fail)
                refine (radds_calls p g2 (putS s name) name bytes _ HR3.out HD.out (by rw [show lkD (putS s name).L name = ⟨#[]⟩ from lkD_lay _ _ _]; have := HS.out; show 0 + _ ≤ _; omega) (.inl (lk_lay_some _ _ _))).mono ?_
                rintro e w5 ⟨rfl, g5, hR5, hg5, hK5⟩
                have HR5 := Aside0.mk hR5
                have HG5 := Aside0.mk (show g5 = g ∨ w.heap.size ≤ g5 from by
                  rcases hg5 with rfl | h5
                  · exact HG3.out
                  · exact .inr (Nat.le_trans HK3.out.size h5))
                have HK5 := Aside0.mk (HK3.out.via hK5 HG3.out)
                clear hR5 hK5 hg5
                go_wp2_with (fail)
                go_ret
                obtain rfl := (putF_more H0.out (roomB_ok HS.out HO.out) HRW.out HZ.out).symm.trans HRES.out
                exact ⟨congrArg (fun z => Ending.returned (.int .i64 z)) (retB_eq _), g5, HR5.out, HG5.out, HK5.out⟩
            · have HK2 := Aside0.mk ((show Kp p g w _ from by first | exact Kp.refl p g w | exact (Kp.refl p g w).drew _ | exact ((Kp.refl p g w).drew _).drew _).trans hK2)
              have HR2 := Aside0.mk hR2
              have HRW := Aside0.mk hraw
              clear hR2 hK2 hraw
              go_wp2_with (fail)
              go_ret
              obtain rfl := (putF_no H0.out (roomB_ok HS.out HO.out) HRW.out).symm.trans HRES.out
              exact ⟨rfl, g, HR2.out, .inl rfl, HK2.out⟩
          · obtain rfl : (s, 4) = res := (putF_room h0 (roomB_full HS.out hl h2)).symm.trans hres
            have h2' : (65536 : Int) ≤ (s.L.length : Int) := by omega
            clear hb hd hl hres c3 h h0 h1 h2 hlz hbz
            go_enter Tryz.func29, Tryz.ntmps29
            go_wp2_with (fail)
            refine HM.out.mono ?_
            rintro e w1 ⟨rfl, rfl⟩
            go_wp2_with (fail)
            refine (HH.out 0).mono ?_
            rintro e w1 ⟨rfl, q2, rfl⟩
            go_wp2_with (fail)
            go_ret
            exact ⟨rfl, g, by first | exact HR.out | exact HR.out.drew _ | exact (HR.out.drew _).drew _, .inl rfl, by first | exact Kp.refl p g w | exact (Kp.refl p g w).drew _ | exact ((Kp.refl p g w).drew _).drew _⟩
end
section
theorem nl_end {w : World} {base n : Nat} {v : Value} {l : List ByteArray} (h : w.ownsRow base 9 1 v n (l.map Value.string)) (hn : l.length = n) : NL w base v l := by
  rcases h.2 with ⟨h1, h2⟩ | ⟨g, cap, cur, rfl, hb, hg, hnc, _, _, ht⟩
  · exact .inl ⟨h1, List.length_eq_zero_iff.1 (hn.trans h2)⟩
  · refine .inr ⟨g, cap, by rw [hn], hb, (Array.getElem?_eq_some_iff.1 hg).1, fun i hi => ?_⟩
    have e := congrArg (fun l => l[i]?) ht
    rw [List.getElem?_take_of_lt (by omega)] at e
    rw [cell_of_row w g i cur _ _ hg, ← Array.getElem?_toList, e]
    simp [hi]
set_option maxHeartbeats 16000000 in
set_option maxRecDepth 100000 in
theorem rnames_calls (p g : Nat) (s : St) (w : World) (h : RK w p g s) : Calls Tryz.prog 53 #[.pointer (some ⟨p, 0, none⟩)] w fun e w' => ∃ v, e = .returned v ∧ NL w' w.heap.size v (if s.dead then [] else s.L.map (·.1)) ∧ Below w.heap.size w w' := by
  obtain ⟨va, vc, c0', c3'⟩ := h.cells'
  have c0 := c0' 0
  have c3 := c3' 0
  change w.cell? _ = _ at c0
  change w.cell? _ = _ at c3
  obtain ⟨res, hres⟩ : ∃ l, (if s.dead then [] else s.L.map (·.1)) = l := ⟨_, rfl⟩
  have HRES := Aside0.mk hres
  rw [hres]
  clear hres c0' c3'
  have HR := Aside0.mk h
  have hlen := h.okf.2.1
  clear h
  cases hd : s.dead
  case true =>
    rw [hd] at c3 HRES
    obtain rfl := HRES.out
    clear hd
    by_cases h0 : 0 < s.L.length
    · have h0' : (0 : Int) < (s.L.length : Int) := by omega
      clear h0
      go_enter Tryz.func53, Tryz.ntmps53
      go_wp2_with (fail)
      refine wp_loop_rounds 1 ?_
      rw [rounds_succ]
      go_wp2_with (fail)
      go_ret
      exact ⟨_, rfl, .inl ⟨rfl, by simp⟩, Below.refl _ _⟩
    · have h0' : decide ((0 : Int) < (s.L.length : Int)) = false := decide_eq_false (by omega)
      clear h0
      go_enter Tryz.func53, Tryz.ntmps53
      go_wp2_with (fail)
      refine wp_loop_rounds 1 ?_
      rw [rounds_succ]
      go_wp2_with (fail)
      all_goals (go_ret; exact ⟨_, rfl, .inl ⟨rfl, by simp⟩, Below.refl _ _⟩)
  case false =>
    rw [hd] at c3 HRES
    obtain rfl := HRES.out
    obtain ⟨i0, hi, hz0, hz1, hz2⟩ := info_parts info9
    go_enter Tryz.func53, Tryz.ntmps53
    go_wp2_with (fail)
    go_loopw [3, 4] (fun v3 v4 wr => ∃ i : Nat, i ≤ s.L.length ∧ v4 = .int .i64 i ∧ wr.ownsRow w.heap.size 9 1 v3 i (((s.L.take i).map (·.1)).map Value.string) ∧ Aside0 (Below w.heap.size w wr)) (fun _ v4 _ => s.L.length - (intOf v4).toNat)
    case atStart => exact ⟨0, Nat.zero_le _, rfl, World.ownsRow_nil _ _ _ _, ⟨Below.refl _ _⟩⟩
    case round =>
      obtain ⟨i, hil, rfl, hrow, HB⟩ := hrel
      have b0 := (HB.out.cell (p := ⟨p, 0, none⟩) HR.out.lt).trans c0
      have b3 := (HB.out.cell (p := ⟨p, 3, none⟩) HR.out.lt).trans c3
      clear c0 c3
      by_cases h1 : i < s.L.length
      · have h1' : (i : Int) < (s.L.length : Int) := by omega
        have h0' : (0 : Int) ≤ (i : Int) := by omega
        obtain ⟨v, hJ⟩ := (HR.out.below HB.out).rj
        have ev : Value.slice va s.L.length vc = v := by have e := b0.symm.trans hJ.cells.1; injection e
        rcases hJ.2.shape with ⟨_, _, hL⟩ | ⟨cap, hv, _, _, hcs, _⟩
        · rw [hL] at h1; exact absurd h1 (by simp)
        rw [hv] at ev
        injection ev with ea _ ec
        subst ea
        subst ec
        have k1 := (hcs i h1).1
        have hsz := HB.out.size
        have HX : Aside0 (((s.L.take (i + 1)).map (·.1)).map Value.string = ((s.L.take i).map (·.1)).map Value.string ++ [.string s.L[i].1]) := ⟨by rw [List.take_succ_eq_append_getElem h1]; simp only [List.map_append, List.map_cons, List.map_nil]⟩
        clear hJ hv hcs
        generalize s.L[i].1 = x at *
        clear h1
        go_wp2_with (first
          | (at_builtin; refine wpList_append_own _ rfl _ _ 36 rfl w.heap.size 9 i0 (.string ⟨#[]⟩) 1 16 Tryz.underlying36 hi hz0 hz1 hz2 rfl (by decide) _ _ _ rfl (hrow.alloc _) ⟨wr.heap.size, 0, none⟩ 1 1 [.string x] rfl rfl (cell_one_new _ _ _) (by simp [Value.oneCell']) (by unfold maxLen; omega) (by omega) (by simp; omega) ?_; intro v' w3 hown' hg3 hnil3; go_frame)
          | go_in)
        go_roundw
        case rel =>
          refine ⟨i + 1, by omega, by simp, by rw [HX.out]; exact hown', ⟨?_⟩⟩
          exact (HB.out.alloc hsz _).grown hg3 (by simp; omega) (fun j hj => (hrow.lt j hj).1)
        case measure => simp [intOf]; omega
      · have h1' : ¬ (i : Int) < (s.L.length : Int) := by omega
        have HI : Aside0 (i = s.L.length) := ⟨by omega⟩
        clear h1
        have HO := Aside0.mk hrow
        clear hrow
        go_wp2_with (fail)
        go_ret
        have hrow := HO.out
        rw [HI.out, List.take_length] at hrow
        exact ⟨_, rfl, nl_end hrow (by simp), HB.out⟩
end
section
def Good (L : FS) : Prop := ∀ q ∈ L, ¬ badN q.1
theorem good_lay {L : FS} {k v : ByteArray} (h : Good L) (hk : ¬ badN k) : Good (lay L k v) := fun q hq => by
  rcases mem_lay _ _ _ _ hq with rfl | hq
  · exact hk
  · exact h q hq
theorem good_take {L : FS} {k : ByteArray} (h : Good L) : Good (take L k) := fun q hq => h q (mem_take _ _ _ hq)
theorem able_good {s : St} {name : ByteArray} (h : ableC s name = 0) : ¬ badN name := fun hb => by rw [ableC_bad hb] at h; omega
theorem there_good {s : St} {name : ByteArray} (h : thereC s name = 0) : ¬ badN name := fun hb => by rw [thereC_bad hb] at h; omega
theorem good_add {name : ByteArray} (hk : ¬ badN name) : ∀ (n : Nat) (s : St) (r : ByteArray), r.size < n → Good s.L → Good (addF s name r).1.L
  | 0, _, _, h, _ => absurd h (by omega)
  | n + 1, s, r, h, hg => by
    by_cases hr : rawOk s
    · by_cases h2 : r.size ≤ 32
      · rw [addF_last hr h2]; exact good_lay hg hk
      · rw [addF_more hr h2]
        exact good_add hk n _ _ (by rw [ByteArray.size_extract]; omega) (good_lay hg hk)
    · rw [addF_dead hr]; exact hg
theorem good_append {s : St} {name r : ByteArray} (h : Good s.L) : Good (appendF s name r).1.L := by
  unfold appendF
  split
  · exact h
  · rename_i h0
    split
    · exact good_add (able_good (Decidable.not_not.1 h0)) _ _ _ (Nat.lt_succ_self _) h
    · exact h
theorem good_put {s : St} {name r : ByteArray} (h : Good s.L) : Good (putF s name r).1.L := by
  unfold putF
  split
  · exact h
  · rename_i h0
    have hk := able_good (Decidable.not_not.1 h0)
    split
    · unfold putR
      split
      · split
        · exact good_lay h hk
        · exact good_add hk _ _ _ (Nat.lt_succ_self _) (good_lay h hk)
      · exact h
    · exact h
theorem good_trunc {s : St} {name : ByteArray} {n : Int} (h : Good s.L) : Good (truncF s name n).1.L := by
  unfold truncF
  split
  · exact h
  · rename_i h0
    have hk := there_good (Decidable.not_not.1 h0)
    split
    · exact h
    · split
      · exact good_lay h hk
      · exact h
theorem good_remove {s : St} {name : ByteArray} (h : Good s.L) : Good (removeF s name).1.L := by
  unfold removeF
  split
  · exact h
  · split
    · exact good_take h
    · exact h
theorem appendF_lt (s : St) (name r : ByteArray) : (appendF s name r).2 < 100 := by
  unfold appendF
  split
  · exact ableC_lt s name
  · split
    · show (if _ then 0 else 5) < 100
      split <;> omega
    · show 4 < 100; omega
theorem putF_lt (s : St) (name r : ByteArray) : (putF s name r).2 < 100 := by
  unfold putF
  split
  · exact ableC_lt s name
  · split
    · show (if _ then 0 else 5) < 100
      split <;> omega
    · show 4 < 100; omega
theorem truncF_lt (s : St) (name : ByteArray) (n : Int) : (truncF s name n).2 < 100 := by
  unfold truncF
  split
  · exact thereC_lt s name
  · split
    · show 2 < 100; omega
    · split
      · show 0 < 100; omega
      · show 5 < 100; omega
theorem removeF_lt (s : St) (name : ByteArray) : (removeF s name).2 < 100 := by
  unfold removeF
  split
  · exact thereC_lt s name
  · split
    · show 0 < 100; omega
    · show 5 < 100; omega
/-- Both disks, at w, in a heap that was B long: the program's has s, the document's t. -/
structure Half (B : Nat) (w0 w : World) (p b q g : Nat) (s t : St) : Prop where
  d : DK w p b s
  r : RK w q g t
  gs : Good s.L
  gt : Good t.L
  hp : B ≤ p
  hb : B ≤ b
  hq : B ≤ q
  hg : B ≤ g
  n1 : p ≠ q
  n2 : p ≠ g
  n3 : b ≠ q
  n4 : b ≠ g
  below : Below B w0 w
theorem Half.le {B : Nat} {w0 w : World} {p b q g : Nat} {s t : St} (h : Half B w0 w p b q g s t) : B ≤ w.heap.size := Nat.le_of_lt (Nat.lt_of_le_of_lt h.hp h.d.lt)
theorem Half.ge {B : Nat} {w0 w : World} {p b q g : Nat} {s t : St} (h : Half B w0 w p b q g s t) (hG : GE w0) (hB : 0 < B) : GE w := (h.below.cell (p := ⟨0, 0, none⟩) hB).trans hG
theorem Half.p {B : Nat} {w0 w w' : World} {p b q g : Nat} {s t s' : St} (h : Half B w0 w p b q g s t) (hd : DK w' p b s') (hk : Kp p b w w') (hs : Good s'.L) : Half B w0 w' p b q g s' t :=
  ⟨hd, h.r.kept hk h.n1.symm h.n3.symm h.n2.symm h.n4.symm, hs, h.gt, h.hp, h.hb, h.hq, h.hg, h.n1, h.n2, h.n3, h.n4, h.below.trans (hk.below h.hp h.hb h.le)⟩
theorem Half.rr {B : Nat} {w0 w w' : World} {p b q g g' : Nat} {s t t' : St} (h : Half B w0 w p b q g s t) (hr : RK w' q g' t') (hk : Kp q g w w') (hg : g' = g ∨ w.heap.size ≤ g') (ht : Good t'.L) : Half B w0 w' p b q g' s t' := by
  have hd := h.d.kept hk h.n1 h.n2 h.n3 h.n4
  have hb := h.below.trans (hk.below h.hq h.hg h.le)
  rcases hg with rfl | hg
  · exact ⟨hd, hr, h.gs, ht, h.hp, h.hb, h.hq, h.hg, h.n1, h.n2, h.n3, h.n4, hb⟩
  · have h1 := h.d.lt
    have h2 := h.d.ltb
    have h3 := h.le
    exact ⟨hd, hr, h.gs, ht, h.hp, h.hb, h.hq, by omega, h.n1, by omega, h.n3, by omega, hb⟩
theorem Half.b {B : Nat} {w0 w w' : World} {p b q g : Nat} {s t : St} (h : Half B w0 w p b q g s t) (hb : Below w.heap.size w w') : Half B w0 w' p b q g s t :=
  ⟨h.d.below hb, h.r.below hb, h.gs, h.gt, h.hp, h.hb, h.hq, h.hg, h.n1, h.n2, h.n3, h.n4, h.below.trans (hb.mono h.le)⟩
theorem Half.drew {B : Nat} {w0 w : World} {p b q g : Nat} {s t : St} (h : Half B w0 w p b q g s t) (n : Nat) : Half B w0 (w.drewN n) p b q g s t := h.b (pw_below_drewN (Below.refl _ _) n)
theorem Half.drew1 {B : Nat} {w0 w : World} {p b q g : Nat} {s t : St} (h : Half B w0 w p b q g s t) : Half B w0 w.drew p b q g s t := h.b (below_drew1 (Below.refl _ _))
theorem Er.kept' {w w1 : World} {lo c p b : Nat} {v : Value} {name : ByteArray} (h : Er w lo v c name) (hk : Kp p b w w1) (h1 : p < lo) (h2 : b < lo) : Er w1 lo v c name := h.kept hk h1 h2
theorem p_append {B : Nat} {w0 w : World} {p b q g : Nat} {s t : St} (name bytes : ByteArray) (h : Half B w0 w p b q g s t) (hn : name.size ≤ 140737488351232) (hb : bytes.size ≤ 140737488351232) : Calls Tryz.prog 26 #[.pointer (some ⟨p, 0, none⟩), .string name, .string bytes] w fun e w' => ∃ v, e = .returned v ∧ Er w' w.heap.size v (appendF s name bytes).2 name ∧ Half B w0 w' p b q g (appendF s name bytes).1 t ∧ Kp p b w w' :=
  (append_calls p b s name bytes w h.d hn hb).mono fun e w' ⟨v, h1, h2, h3, h4⟩ => ⟨v, h1, h2, h.p h3 h4 (good_append h.gs), h4⟩
theorem p_put {B : Nat} {w0 w : World} {p b q g : Nat} {s t : St} (name bytes : ByteArray) (h : Half B w0 w p b q g s t) (hn : name.size ≤ 140737488351232) (hb : bytes.size ≤ 140737488351232) : Calls Tryz.prog 28 #[.pointer (some ⟨p, 0, none⟩), .string name, .string bytes] w fun e w' => ∃ v, e = .returned v ∧ Er w' w.heap.size v (putF s name bytes).2 name ∧ Half B w0 w' p b q g (putF s name bytes).1 t ∧ Kp p b w w' :=
  (put_calls p b s name bytes w h.d hn hb).mono fun e w' ⟨v, h1, h2, h3, h4⟩ => ⟨v, h1, h2, h.p h3 h4 (good_put h.gs), h4⟩
theorem p_trunc {B : Nat} {w0 w : World} {p b q g : Nat} {s t : St} (name : ByteArray) (n : Int) (h : Half B w0 w p b q g s t) (hn : name.size ≤ 140737488351232) : Calls Tryz.prog 40 #[.pointer (some ⟨p, 0, none⟩), .string name, .int .i64 n] w fun e w' => ∃ v, e = .returned v ∧ Er w' w.heap.size v (truncF s name n).2 name ∧ Half B w0 w' p b q g (truncF s name n).1 t ∧ Kp p b w w' :=
  (trunc_calls p b s name n w h.d hn).mono fun e w' ⟨v, h1, h2, h3, h4⟩ => ⟨v, h1, h2, h.p h3 h4 (good_trunc h.gs), h4⟩
theorem p_remove {B : Nat} {w0 w : World} {p b q g : Nat} {s t : St} (name : ByteArray) (h : Half B w0 w p b q g s t) (hn : name.size ≤ 140737488351232) : Calls Tryz.prog 43 #[.pointer (some ⟨p, 0, none⟩), .string name] w fun e w' => ∃ v, e = .returned v ∧ Er w' w.heap.size v (removeF s name).2 name ∧ Half B w0 w' p b q g (removeF s name).1 t ∧ Kp p b w w' :=
  (remove_calls p b s name w h.d hn).mono fun e w' ⟨v, h1, h2, h3, h4⟩ => ⟨v, h1, h2, h.p h3 h4 (good_remove h.gs), h4⟩
theorem r_append {B : Nat} {w0 w : World} {p b q g : Nat} {s t : St} (name bytes : ByteArray) (h : Half B w0 w p b q g s t) (hb : bytes.size ≤ 140737488351232) : Calls Tryz.prog 27 #[.pointer (some ⟨q, 0, none⟩), .string name, .string bytes] w fun e w' => e = .returned (.int .i64 (appendF t name bytes).2) ∧ ∃ g', Half B w0 w' p b q g' s (appendF t name bytes).1 ∧ Kp q g w w' :=
  (rappend_calls q g t name bytes w h.r hb).mono fun e w' ⟨h1, g', h2, h3, h4⟩ => ⟨h1, g', h.rr h2 h4 h3 (good_append h.gt), h4⟩
theorem r_put {B : Nat} {w0 w : World} {p b q g : Nat} {s t : St} (name bytes : ByteArray) (h : Half B w0 w p b q g s t) (hb : bytes.size ≤ 140737488351232) : Calls Tryz.prog 29 #[.pointer (some ⟨q, 0, none⟩), .string name, .string bytes] w fun e w' => e = .returned (.int .i64 (putF t name bytes).2) ∧ ∃ g', Half B w0 w' p b q g' s (putF t name bytes).1 ∧ Kp q g w w' :=
  (rput_calls q g t name bytes w h.r hb).mono fun e w' ⟨h1, g', h2, h3, h4⟩ => ⟨h1, g', h.rr h2 h4 h3 (good_put h.gt), h4⟩
theorem r_trunc {B : Nat} {w0 w : World} {p b q g : Nat} {s t : St} (name : ByteArray) (n : Int) (h : Half B w0 w p b q g s t) : Calls Tryz.prog 56 #[.pointer (some ⟨q, 0, none⟩), .string name, .int .i64 n] w fun e w' => e = .returned (.int .i64 (truncF t name n).2) ∧ ∃ g', Half B w0 w' p b q g' s (truncF t name n).1 ∧ Kp q g w w' :=
  (rtrunc_calls q g t name n w h.r).mono fun e w' ⟨h1, g', h2, h3, h4⟩ => ⟨h1, g', h.rr h2 h4 h3 (good_trunc h.gt), h4⟩
theorem r_remove {B : Nat} {w0 w : World} {p b q g : Nat} {s t : St} (name : ByteArray) (h : Half B w0 w p b q g s t) : Calls Tryz.prog 55 #[.pointer (some ⟨q, 0, none⟩), .string name] w fun e w' => e = .returned (.int .i64 (removeF t name).2) ∧ ∃ g', Half B w0 w' p b q g' s (removeF t name).1 ∧ Kp q g w w' :=
  (rremove_calls q g t name w h.r).mono fun e w' ⟨h1, g', h2, h3, h4⟩ => ⟨h1, g', h.rr h2 h4 h3 (good_remove h.gt), h4⟩
theorem Er.of0 {w : World} {lo c : Nat} {v : Value} {n1 of : ByteArray} (h : Er w lo v c n1) (ho : c = 0 ∨ of = n1) : Er w lo v c of := by
  rcases ho with rfl | rfl
  · rcases h with h | ⟨h, _⟩
    · exact .inl h
    · omega
  · exact h
end
end Go.Proofs.YtmceikfbgmcmaaaGreatDoor.D

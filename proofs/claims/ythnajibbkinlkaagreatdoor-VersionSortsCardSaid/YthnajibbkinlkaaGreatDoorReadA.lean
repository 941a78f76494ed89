/- The walk of version.Read: it returns what 'version_Read.f' says. -/
import Derived.Test.YthnajibbkinlkaaGreatDoorPVx0
import Derived.Test.YthnajibbkinlkaaGreatDoorDB
import Derived.Test.YthnajibbkinlkaaGreatDoorMayA
import Derived.Test.YthnajibbkinlkaaGreatDoorNumberA
import Derived.Test.YthnajibbkinlkaaGreatDoorShelf
import Derived.Lib.SplitLaws
import Derived.Laws.ResultCell
namespace Go.Proofs.YthnajibbkinlkaaGreatDoor.PV
open Go.RowKit Go.Proofs.YthnajibbkinlkaaGreatDoorW.PrintWords Go.Proofs.YthnajibbkinlkaaGreatDoorW.PrintLast Go.Proofs.YthnajibbkinlkaaGreatDoorW.PrintMore
attribute [local go_sem] max2_int min2_int max_two min_two max_three min_three max_four min_four   -- for this text's walks alone
set_option linter.unusedVariables false
set_option linter.unusedSimpArgs false

def dot : ByteArray := ⟨#[46]⟩
def dash : ByteArray := ⟨#[45]⟩
def spl (s : ByteArray) : List ByteArray := Lib.splitB dot 0 (Lib.countB s dot) s
theorem spl_len (s : ByteArray) : (spl s).length = Lib.countB s dot + 1 := Lib.splitB_all dot (by decide) 0 _ s rfl
def headB (s : ByteArray) : ByteArray := ⟨(Lib.cut s.data.toList dash.data.toList).1.toArray⟩
def tailB (s : ByteArray) : ByteArray := ⟨(Lib.cut s.data.toList dash.data.toList).2.1.toArray⟩
def preB (s : ByteArray) : Bool := (Lib.cut s.data.toList dash.data.toList).2.2
/-- A number of a version: its value, where it may be. -/
def numV (x : ByteArray) : Option Int := if numOk x.data.toList = true ∧ (decV x.data.toList : Int) ≤ 2147483647 then some (decV x.data.toList : Int) else none
def readP (l p : List ByteArray) : Option (Int × Int × Int × List ByteArray) :=
  match l with
  | [x, y, z] => match numV x, numV y, numV z with
    | some a, some b, some c => if mayV a b c p = true then some (a, b, c, p) else none
    | _, _, _ => none
  | _ => none
def version_Read.f (a0 : ByteArray) : Option (Int × Int × Int × List ByteArray × Int) :=
  some (if a0.size ≤ 128 then match readP (spl (headB a0)) (if preB a0 = true then spl (tailB a0) else []) with
    | some (a, b, c, p) => (a, b, c, p, 0)
    | none => (0, 0, 0, [], 70)
  else (0, 0, 0, [], 70))

theorem num_yes {x : ByteArray} {a : Int} (h : numV x = some a) : version_number.f x = some (a, true) ∧ 0 ≤ a ∧ a ≤ 2147483647 := by
  unfold numV at h
  split at h
  case isFalse => cases h
  case isTrue hh =>
    have e := Option.some.inj h
    subst e
    have hs : x.size < 9223372036854775000 := by
      have := hh.1
      unfold numOk at this
      simp only [Bool.and_eq_true, decide_eq_true_eq] at this
      have h2 := this.2.2
      rw [size_len] at h2
      omega
    refine ⟨?_, by omega, hh.2⟩
    unfold version_number.f
    rw [if_pos hs, if_pos hh.1, decide_eq_true hh.2]
    congr 2
    omega
theorem num_no {x : ByteArray} (h : numV x = none) (hs : x.size ≤ 128) : ∃ a, version_number.f x = some (a, false) := by
  unfold version_number.f
  rw [if_pos (by omega)]
  unfold numV at h
  split at h
  · cases h
  · rename_i hh
    by_cases h1 : numOk x.data.toList = true
    · rw [if_pos h1, decide_eq_false (fun h2 => hh ⟨h1, h2⟩)]
      exact ⟨_, rfl⟩
    · rw [if_neg h1]
      exact ⟨_, rfl⟩

theorem bcell {W w1 : World} (hb : DBelow W.heap.size W w1) : (∀ b o, b < W.heap.size → w1.cell? ⟨b, o, none⟩ = W.cell? ⟨b, o, none⟩) ∧ (∀ b o, b < W.heap.size → w1.frozen? ⟨b, o, none⟩ = W.frozen? ⟨b, o, none⟩) :=
  ⟨fun b o h => hb.cell (p := ⟨b, o, none⟩) h, fun b o h => hb.frozen (p := ⟨b, o, none⟩) h⟩
theorem load4 (W : World) (g : Nat) (v0 v1 v2 v3 : Value) (h0 : W.cell? ⟨g, 0, none⟩ = some v0) (h1 : W.cell? ⟨g, 1, none⟩ = some v1) (h2 : W.cell? ⟨g, 2, none⟩ = some v2) (h3 : W.cell? ⟨g, 3, none⟩ = some v3) :
    (loadVar 32 ⟨g, 0, none⟩).run Tryz.prog W = .ok (.agg #[v0, v1, v2, v3]) W := by
  go_simp
theorem put4 (W : World) (g : Nat) (x0 x1 x2 x3 v0 v1 v2 v3 : Value) (h0 : W.cell? ⟨g, 0, none⟩ = some x0) (h1 : W.cell? ⟨g, 1, none⟩ = some x1) (h2 : W.cell? ⟨g, 2, none⟩ = some x2) (h3 : W.cell? ⟨g, 3, none⟩ = some x3) :
    ((((W.setCell ⟨g, 0, none⟩ v0).setCell ⟨g, 1, none⟩ v1).setCell ⟨g, 2, none⟩ v2).setCell ⟨g, 3, none⟩ v3).cell? ⟨g, 0, none⟩ = some v0 ∧ ((((W.setCell ⟨g, 0, none⟩ v0).setCell ⟨g, 1, none⟩ v1).setCell ⟨g, 2, none⟩ v2).setCell ⟨g, 3, none⟩ v3).cell? ⟨g, 1, none⟩ = some v1 ∧
    ((((W.setCell ⟨g, 0, none⟩ v0).setCell ⟨g, 1, none⟩ v1).setCell ⟨g, 2, none⟩ v2).setCell ⟨g, 3, none⟩ v3).cell? ⟨g, 2, none⟩ = some v2 ∧ ((((W.setCell ⟨g, 0, none⟩ v0).setCell ⟨g, 1, none⟩ v1).setCell ⟨g, 2, none⟩ v2).setCell ⟨g, 3, none⟩ v3).cell? ⟨g, 3, none⟩ = some v3 := by
  go_simp
set_option maxRecDepth 100000 in
theorem ret28 (tmps : Array Value) (W : World) (g : Nat) (x0 x1 x2 x3 v0 v1 v2 v3 v4 : Value) (ht : tmps.getD 2 undef = .pointer (some ⟨g, 0, none⟩)) (hu : tmps.getD 3 undef = v4) (h0 : W.cell? ⟨g, 0, none⟩ = some x0) (h1 : W.cell? ⟨g, 1, none⟩ = some x1) (h2 : W.cell? ⟨g, 2, none⟩ = some x2) (h3 : W.cell? ⟨g, 3, none⟩ = some x3) :
    (results Tryz.f7 tmps).run Tryz.prog ((((W.setCell ⟨g, 0, none⟩ v0).setCell ⟨g, 1, none⟩ v1).setCell ⟨g, 2, none⟩ v2).setCell ⟨g, 3, none⟩ v3) = .ok (.tuple #[.agg #[v0, v1, v2, v3], v4]) ((((W.setCell ⟨g, 0, none⟩ v0).setCell ⟨g, 1, none⟩ v1).setCell ⟨g, 2, none⟩ v2).setCell ⟨g, 3, none⟩ v3) := by
  obtain ⟨c0, c1, c2, c3⟩ := put4 W g x0 x1 x2 x3 v0 v1 v2 v3 h0 h1 h2 h3
  rw [results_cell_tmp Tryz.results7, ht, hu]
  have := load4 _ g v0 v1 v2 v3 c0 c1 c2 c3
  have e : ∀ W', (asAddr (.pointer (some ⟨g, 0, none⟩))).run Tryz.prog W' = .ok ⟨g, 0, none⟩ W' := fun _ => rfl
  rw [e]
  show ((loadVar 32 ⟨g, 0, none⟩).run _ _).andThen _ = _
  rw [this]
  simp only [Result.andThen]
theorem C_alloc (W : World) (l : List ByteArray) (hl : l.length ≤ 200) : Kd.C Kd.string (W.alloc (.cells (l.map Value.string).toArray 9)) (some ⟨W.heap.size, 0, none⟩) l.length l := by
  refine ⟨rfl, by omega, fun _ => ⟨_, rfl, fun j p hj => ⟨[.string p], rfl, rfl, fun i u hi => ?_⟩⟩⟩
  have hi0 : i = 0 := by
    have := (List.getElem?_eq_some_iff.1 hi).1
    simp at this; omega
  subst hi0
  have hu : Value.string p = u := by simpa using hi
  subst hu
  rw [addr_add]
  show (W.alloc (.cells (l.map Value.string).toArray 9)).cell? ⟨W.heap.size, 0 + (j * 1 + 0), none⟩ = _
  have hb : (W.alloc (.cells (l.map Value.string).toArray 9)).heap[W.heap.size]? = some (.cells (l.map Value.string).toArray 9 (0, 0)) := heap_alloc_new W _
  unfold World.cell?
  simp only [hb]
  simp [hj]
theorem C_move {W W1 : World} {g : Nat} {n : Nat} {l : List ByteArray} (h : Kd.C Kd.string W (some ⟨g, 0, none⟩) n l) (hb : W1.heap[g]? = W.heap[g]?) : Kd.C Kd.string W1 (some ⟨g, 0, none⟩) n l := by
  refine ⟨h.1, h.2.1, fun hn => ?_⟩
  obtain ⟨ad, e, hc⟩ := h.2.2 hn
  cases e
  refine ⟨_, rfl, fun j p hj => ?_⟩
  obtain ⟨c, h1, h2, h3⟩ := hc j p hj
  refine ⟨c, h1, h2, fun i u hi => ?_⟩
  rw [← h3 i u hi, addr_add]
  unfold World.cell?
  rw [hb]
theorem R_block (W : World) (B g : Nat) (l : List ByteArray) (hl : l.length ≤ 200) (hg : B ≤ g) (hb : W.heap[g]? = some (.cells (l.map Value.string).toArray 9 (0, 0))) : Kd.R Kd.string 9 W B (fun _ => True) (.slice (some ⟨g, 0, none⟩) l.length l.length) l := by
  refine Kd.R_of_own (enc := Value.string) (h1 := fun _ => rfl) ?_ (fun _ _ => trivial)
  refine ⟨by simp [encs], .inr ⟨g, l.length, _, rfl, hg, hb, Nat.le_refl _, by unfold maxLen; omega, by simp, ?_⟩⟩
  rw [Nat.mul_one]
  exact List.take_of_length_le (by simp)
theorem spl_short (s : ByteArray) (hs : s.size ≤ 128) : (spl s).length ≤ 200 := by
  rw [spl_len]
  have := Lib.countB_le dot (by decide) s.size s (Nat.le_refl _)
  omega
theorem split_calls (s : ByteArray) (hs : s.size ≤ 128) (W : World) (hG : GW W) (l : List ByteArray) (hl : spl s = l) (n : Nat) (hn : l.length = n) (cs : Array Value) (hcs : (l.map Value.string).toArray = cs) :
    Calls Tryz.prog 20 #[.string s, .string ⟨#[46]⟩] W fun e w' => e = .returned (.slice (some ⟨W.heap.size, 0, none⟩) n n) ∧ w' = W.alloc (.cells cs 9) := by
  obtain ⟨m, hm⟩ := hG
  refine (Tryz.strings_Split s dot m W (by omega) hm (by decide)).mono ?_
  rintro e w' ⟨rfl, rfl⟩
  have h1 := spl_len s
  rw [hl] at h1
  subst hn hcs
  rw [← h1, ← hl]
  exact ⟨rfl, rfl⟩
theorem cut_calls (s : ByteArray) (hs : s.size ≤ 128) (W : World) (hG : GW W) :
    Calls Tryz.prog 19 #[.string s, .string ⟨#[45]⟩] W fun e w' => e = .returned (.tuple #[.string (headB s), .string (tailB s), .bool (preB s)]) ∧ ∃ n, w' = W.drewN n := by
  obtain ⟨m, hm⟩ := hG
  exact Tryz.strings_Cut s dash m W (by omega) hm
theorem arr_len (l : List UInt8) : (⟨l.toArray⟩ : ByteArray).size = l.length := by rw [← size_len]
theorem cut_le (s : ByteArray) : (headB s).size ≤ s.size ∧ (tailB s).size ≤ s.size := by
  unfold headB tailB
  have h1 : s.data.toList.length ≤ s.size := Nat.le_of_eq (size_len s)
  refine ⟨Nat.le_trans (Nat.le_of_eq (arr_len _)) ?_, Nat.le_trans (Nat.le_of_eq (arr_len _)) ?_⟩ <;> unfold Lib.cut
  · split
    · rw [List.length_take]; exact Nat.le_trans (Nat.min_le_right _ _) h1
    · exact h1
  · split
    · rw [List.length_drop]; exact Nat.le_trans (Nat.sub_le _ _) h1
    · exact Nat.zero_le _
theorem spl_le (s : ByteArray) (x : ByteArray) (h : x ∈ spl s) : x.size ≤ s.size := by
  have : ∀ (k : Nat) (s : ByteArray), x ∈ Lib.splitB dot 0 k s → x.size ≤ s.size := by
    intro k
    induction k with
    | zero => intro s h; rw [Lib.splitB_zero] at h; simp only [List.mem_singleton] at h; rw [h]; exact Nat.le_refl _
    | succ k ih =>
      intro s h
      unfold Lib.splitB at h
      split at h
      · simp only [List.mem_singleton] at h; rw [h]; exact Nat.le_refl _
      · rcases List.mem_cons.1 h with h | h
        · rw [h, ByteArray.size_extract]; omega
        · have := ih _ h; rw [ByteArray.size_extract] at this; omega
  exact this _ s h

theorem blk_new (W : World) (o : Obj) (g : Nat) (hg : g = W.heap.size) : (W.alloc o).heap[g]? = some o := by subst hg; exact heap_alloc_new W o
theorem C_alloc' (W : World) (l : List ByteArray) (hl : l.length ≤ 200) (g : Nat) (hg : g = W.heap.size) : Kd.C Kd.string (W.alloc (.cells (l.map Value.string).toArray 9)) (some ⟨g, 0, none⟩) l.length l := by subst hg; exact C_alloc W l hl
theorem blk_set5 (W : World) (g G : Nat) (V : Nat) (o : Obj) (u v0 v1 v2 v3 : Value) (h : W.heap[G]? = some o) (h1 : G ≠ g) (h2 : G ≠ V) :
    (((((W.setCell ⟨V, 3, none⟩ u).setCell ⟨g, 0, none⟩ v0).setCell ⟨g, 1, none⟩ v1).setCell ⟨g, 2, none⟩ v2).setCell ⟨g, 3, none⟩ v3).heap[G]? = some o := by
  rw [DBelow.heap_setCell _ _ _ _ h1, DBelow.heap_setCell _ _ _ _ h1, DBelow.heap_setCell _ _ _ _ h1, DBelow.heap_setCell _ _ _ _ h1, DBelow.heap_setCell _ _ _ _ h2]
  exact h
set_option maxHeartbeats 8000000 in
set_option maxRecDepth 100000 in
theorem clip_calls (g n : Nat) (W : World) : Calls Tryz.prog 15 #[.slice (some ⟨g, 0, none⟩) n n] W fun e w' => e = .returned (.slice (some ⟨g, 0, none⟩) n n) ∧ W = w' := by
  go_enter Tryz.func15, Tryz.ntmps15
  go_wp2
  exact bodyPost_ret (results_single Tryz.results15 (.tmp .nil)) rfl ⟨rfl, rfl⟩
set_option maxHeartbeats 8000000 in
set_option maxRecDepth 100000 in
theorem read_nil (a0 x y z : ByteArray) (a b c : Int) (w : World) (hs : a0.size ≤ 128) (hh1 : (headB a0).size ≤ 128) (hh2 : (tailB a0).size ≤ 128) (HG : Aside0 (GW w)) (HL : Aside0 (spl (headB a0) = [x, y, z])) (HXA : Aside0 (version_number.f x = some (a, true))) (HYA : Aside0 (version_number.f y = some (b, true))) (HZA : Aside0 (version_number.f z = some (c, true)))
    (hp : preB a0 = false) (HMAY : Aside0 (version_May.f a b c [] = some 0)) :
    Calls Tryz.prog 7 #[.string a0] w fun e w' => ∃ v3_ : Value, e = .returned (.tuple #[.agg #[.int .u32 a, .int .u32 b, .int .u32 c, v3_], .int .i64 0]) ∧ Kd.R Kd.string 9 w' w.heap.size (fun _ => True) v3_ [] ∧ DBelow w.heap.size w w' := by
  have i0 : ∀ (a b c : Value) w, (Instr.index 48 (.agg #[a, b, c]) (.int .i64 0)).run Tryz.prog w = .ok a w := fun _ _ _ _ => by kernel_rfl
  have i1 : ∀ (a b c : Value) w, (Instr.index 48 (.agg #[a, b, c]) (.int .i64 1)).run Tryz.prog w = .ok b w := fun _ _ _ _ => by kernel_rfl
  have i2 : ∀ (a b c : Value) w, (Instr.index 48 (.agg #[a, b, c]) (.int .i64 2)).run Tryz.prog w = .ok c w := fun _ _ _ _ => by kernel_rfl
  go_enter Tryz.func7, Tryz.ntmps7
  go_wp2_with (first | (go_at_call 19; refine (cut_calls a0 hs _ (by exact GW.dbelow HG.out ((DBelow.refl _ _).alloc (Nat.le_refl _) _))).mono ?_; rintro e w1 ⟨rfl, ⟨n1, rfl⟩⟩) | (go_at_call 20; refine (split_calls (headB a0) hh1 _ (by exact GW.dbelow HG.out (dpw_below_drewN ((DBelow.refl _ _).alloc (Nat.le_refl _) _) _)) [x, y, z] HL.out 3 rfl #[.string x, .string y, .string z] rfl).mono ?_; rintro e w2 ⟨rfl, rfl⟩))
  refine wp_loop_rounds 4 ?_
  rw [rounds_succ]
  go_wp2_with (first | (go_at_call 21; refine (version_number.calls x a true _ (by exact GW.dbelow HG.out (by repeat (first | exact DBelow.refl _ _ | exact HB3.out | exact HB4.out | exact HB5.out | exact HB6.out | exact HB7.out | (refine DBelow.alloc ?_ (by simp <;> omega) _) | apply dpw_below_drewN | (refine DBelow.setCell ?_ (by simp <;> omega) _)))) HXA.out).mono ?_; rintro e w3 ⟨rfl, hb3⟩; have HB3 := Aside0.mk (dbelow_step (w := w) (by repeat (first | exact DBelow.refl _ _ | exact HB3.out | exact HB4.out | exact HB5.out | exact HB6.out | exact HB7.out | (refine DBelow.alloc ?_ (by simp <;> omega) _) | apply dpw_below_drewN | (refine DBelow.setCell ?_ (by simp <;> omega) _))) hb3); obtain ⟨hc3, hf3⟩ := bcell hb3; have hz3a : w.heap.size < w3.heap.size := (by have := hb3.size; simp at this; omega); have hz3b : w.heap.size + 1 < w3.heap.size := (by have := hb3.size; simp at this; omega); have hz3c : w.heap.size + 1 + 1 < w3.heap.size := (by have := hb3.size; simp at this; omega); clear hb3))
  rw [rounds_succ]
  go_wp2_with (first | (go_at_call 21; refine (version_number.calls y b true _ (by exact GW.dbelow HG.out (by repeat (first | exact DBelow.refl _ _ | exact HB3.out | exact HB4.out | exact HB5.out | exact HB6.out | exact HB7.out | (refine DBelow.alloc ?_ (by simp <;> omega) _) | apply dpw_below_drewN | (refine DBelow.setCell ?_ (by simp <;> omega) _)))) HYA.out).mono ?_; rintro e w4 ⟨rfl, hb4⟩; have HB4 := Aside0.mk (dbelow_step (w := w) (by repeat (first | exact DBelow.refl _ _ | exact HB3.out | exact HB4.out | exact HB5.out | exact HB6.out | exact HB7.out | (refine DBelow.alloc ?_ (by simp <;> omega) _) | apply dpw_below_drewN | (refine DBelow.setCell ?_ (by simp <;> omega) _))) hb4); obtain ⟨hc4, hf4⟩ := bcell hb4; have hz4a : w.heap.size < w4.heap.size := (by have := hb4.size; simp at this; omega); have hz4b : w.heap.size + 1 < w4.heap.size := (by have := hb4.size; simp at this; omega); have hz4c : w.heap.size + 1 + 1 < w4.heap.size := (by have := hb4.size; simp at this; omega); clear hb4))
  rw [rounds_succ]
  go_wp2_with (first | (go_at_call 21; refine (version_number.calls z c true _ (by exact GW.dbelow HG.out (by repeat (first | exact DBelow.refl _ _ | exact HB3.out | exact HB4.out | exact HB5.out | exact HB6.out | exact HB7.out | (refine DBelow.alloc ?_ (by simp <;> omega) _) | apply dpw_below_drewN | (refine DBelow.setCell ?_ (by simp <;> omega) _)))) HZA.out).mono ?_; rintro e w5 ⟨rfl, hb5⟩; have HB5 := Aside0.mk (dbelow_step (w := w) (by repeat (first | exact DBelow.refl _ _ | exact HB3.out | exact HB4.out | exact HB5.out | exact HB6.out | exact HB7.out | (refine DBelow.alloc ?_ (by simp <;> omega) _) | apply dpw_below_drewN | (refine DBelow.setCell ?_ (by simp <;> omega) _))) hb5); obtain ⟨hc5, hf5⟩ := bcell hb5; have hz5a : w.heap.size < w5.heap.size := (by have := hb5.size; simp at this; omega); have hz5b : w.heap.size + 1 < w5.heap.size := (by have := hb5.size; simp at this; omega); have hz5c : w.heap.size + 1 + 1 < w5.heap.size := (by have := hb5.size; simp at this; omega); clear hb5))
  rw [rounds_succ]
  go_wp2_with (first | (go_at_call 22; refine (version_May.calls a b c none 0 [] 0 _ (by exact ⟨rfl, by simp, fun h_ => absurd h_ (by simp)⟩) (Nat.le_refl _) (by exact GW.dbelow HG.out (by repeat (first | exact DBelow.refl _ _ | exact HB3.out | exact HB4.out | exact HB5.out | exact HB6.out | exact HB7.out | (refine DBelow.alloc ?_ (by simp <;> omega) _) | apply dpw_below_drewN | (refine DBelow.setCell ?_ (by simp <;> omega) _)))) HMAY.out).mono ?_; rintro e w6 ⟨rfl, hb6⟩; have HB6 := Aside0.mk (dbelow_step (w := w) (by repeat (first | exact DBelow.refl _ _ | exact HB3.out | exact HB4.out | exact HB5.out | exact HB6.out | exact HB7.out | (refine DBelow.alloc ?_ (by simp <;> omega) _) | apply dpw_below_drewN | (refine DBelow.setCell ?_ (by simp <;> omega) _))) hb6); obtain ⟨hc6, hf6⟩ := bcell hb6; have hz6a : w.heap.size < w6.heap.size := (by have := hb6.size; simp at this; omega); have hz6b : w.heap.size + 1 < w6.heap.size := (by have := hb6.size; simp at this; omega); have hz6c : w.heap.size + 1 + 1 < w6.heap.size := (by have := hb6.size; simp at this; omega); clear hb6) | (go_at_call 15; go_in))
  have c0 : (w6.setCell ⟨w.heap.size + 1 + 1, 3, none⟩ (.slice none 0 0)).cell? ⟨w.heap.size, 0, none⟩ = some (.int .u32 0) := by go_simp
  have c1 : (w6.setCell ⟨w.heap.size + 1 + 1, 3, none⟩ (.slice none 0 0)).cell? ⟨w.heap.size, 1, none⟩ = some (.int .u32 0) := by go_simp
  have c2 : (w6.setCell ⟨w.heap.size + 1 + 1, 3, none⟩ (.slice none 0 0)).cell? ⟨w.heap.size, 2, none⟩ = some (.int .u32 0) := by go_simp
  have c3 : (w6.setCell ⟨w.heap.size + 1 + 1, 3, none⟩ (.slice none 0 0)).cell? ⟨w.heap.size, 3, none⟩ = some (.slice none 0 0) := by go_simp
  refine bodyPost_ret (ret28 _ (w6.setCell ⟨w.heap.size + 1 + 1, 3, none⟩ (.slice none 0 0)) w.heap.size _ _ _ _ _ _ _ _ _ rfl rfl c0 c1 c2 c3) rfl ⟨_, rfl, Kd.R_nil _ _ _ _ _, ?_⟩
  repeat (first | exact DBelow.refl _ _ | exact HB3.out | exact HB4.out | exact HB5.out | exact HB6.out | exact HB7.out | (refine DBelow.alloc ?_ (by simp <;> omega) _) | apply dpw_below_drewN | (refine DBelow.setCell ?_ (by simp <;> omega) _))
set_option maxHeartbeats 8000000 in
set_option maxRecDepth 100000 in
theorem read_nilbad (a0 x y z : ByteArray) (a b c : Int) (w : World) (hs : a0.size ≤ 128) (hh1 : (headB a0).size ≤ 128) (hh2 : (tailB a0).size ≤ 128) (HG : Aside0 (GW w)) (HL : Aside0 (spl (headB a0) = [x, y, z])) (HXA : Aside0 (version_number.f x = some (a, true))) (HYA : Aside0 (version_number.f y = some (b, true))) (HZA : Aside0 (version_number.f z = some (c, true)))
    (hp : preB a0 = false) (HMAY : Aside0 (version_May.f a b c [] = some 70)) :
    Calls Tryz.prog 7 #[.string a0] w fun e w' => ∃ v3_ : Value, e = .returned (.tuple #[.agg #[.int .u32 0, .int .u32 0, .int .u32 0, v3_], .int .i64 70]) ∧ Kd.R Kd.string 9 w' w.heap.size (fun _ => True) v3_ [] ∧ DBelow w.heap.size w w' := by
  have i0 : ∀ (a b c : Value) w, (Instr.index 48 (.agg #[a, b, c]) (.int .i64 0)).run Tryz.prog w = .ok a w := fun _ _ _ _ => by kernel_rfl
  have i1 : ∀ (a b c : Value) w, (Instr.index 48 (.agg #[a, b, c]) (.int .i64 1)).run Tryz.prog w = .ok b w := fun _ _ _ _ => by kernel_rfl
  have i2 : ∀ (a b c : Value) w, (Instr.index 48 (.agg #[a, b, c]) (.int .i64 2)).run Tryz.prog w = .ok c w := fun _ _ _ _ => by kernel_rfl
  go_enter Tryz.func7, Tryz.ntmps7
  go_wp2_with (first | (go_at_call 19; refine (cut_calls a0 hs _ (by exact GW.dbelow HG.out ((DBelow.refl _ _).alloc (Nat.le_refl _) _))).mono ?_; rintro e w1 ⟨rfl, ⟨n1, rfl⟩⟩) | (go_at_call 20; refine (split_calls (headB a0) hh1 _ (by exact GW.dbelow HG.out (dpw_below_drewN ((DBelow.refl _ _).alloc (Nat.le_refl _) _) _)) [x, y, z] HL.out 3 rfl #[.string x, .string y, .string z] rfl).mono ?_; rintro e w2 ⟨rfl, rfl⟩))
  refine wp_loop_rounds 4 ?_
  rw [rounds_succ]
  go_wp2_with (first | (go_at_call 21; refine (version_number.calls x a true _ (by exact GW.dbelow HG.out (by repeat (first | exact DBelow.refl _ _ | exact HB3.out | exact HB4.out | exact HB5.out | exact HB6.out | exact HB7.out | (refine DBelow.alloc ?_ (by simp <;> omega) _) | apply dpw_below_drewN | (refine DBelow.setCell ?_ (by simp <;> omega) _)))) HXA.out).mono ?_; rintro e w3 ⟨rfl, hb3⟩; have HB3 := Aside0.mk (dbelow_step (w := w) (by repeat (first | exact DBelow.refl _ _ | exact HB3.out | exact HB4.out | exact HB5.out | exact HB6.out | exact HB7.out | (refine DBelow.alloc ?_ (by simp <;> omega) _) | apply dpw_below_drewN | (refine DBelow.setCell ?_ (by simp <;> omega) _))) hb3); obtain ⟨hc3, hf3⟩ := bcell hb3; have hz3a : w.heap.size < w3.heap.size := (by have := hb3.size; simp at this; omega); have hz3b : w.heap.size + 1 < w3.heap.size := (by have := hb3.size; simp at this; omega); have hz3c : w.heap.size + 1 + 1 < w3.heap.size := (by have := hb3.size; simp at this; omega); clear hb3))
  rw [rounds_succ]
  go_wp2_with (first | (go_at_call 21; refine (version_number.calls y b true _ (by exact GW.dbelow HG.out (by repeat (first | exact DBelow.refl _ _ | exact HB3.out | exact HB4.out | exact HB5.out | exact HB6.out | exact HB7.out | (refine DBelow.alloc ?_ (by simp <;> omega) _) | apply dpw_below_drewN | (refine DBelow.setCell ?_ (by simp <;> omega) _)))) HYA.out).mono ?_; rintro e w4 ⟨rfl, hb4⟩; have HB4 := Aside0.mk (dbelow_step (w := w) (by repeat (first | exact DBelow.refl _ _ | exact HB3.out | exact HB4.out | exact HB5.out | exact HB6.out | exact HB7.out | (refine DBelow.alloc ?_ (by simp <;> omega) _) | apply dpw_below_drewN | (refine DBelow.setCell ?_ (by simp <;> omega) _))) hb4); obtain ⟨hc4, hf4⟩ := bcell hb4; have hz4a : w.heap.size < w4.heap.size := (by have := hb4.size; simp at this; omega); have hz4b : w.heap.size + 1 < w4.heap.size := (by have := hb4.size; simp at this; omega); have hz4c : w.heap.size + 1 + 1 < w4.heap.size := (by have := hb4.size; simp at this; omega); clear hb4))
  rw [rounds_succ]
  go_wp2_with (first | (go_at_call 21; refine (version_number.calls z c true _ (by exact GW.dbelow HG.out (by repeat (first | exact DBelow.refl _ _ | exact HB3.out | exact HB4.out | exact HB5.out | exact HB6.out | exact HB7.out | (refine DBelow.alloc ?_ (by simp <;> omega) _) | apply dpw_below_drewN | (refine DBelow.setCell ?_ (by simp <;> omega) _)))) HZA.out).mono ?_; rintro e w5 ⟨rfl, hb5⟩; have HB5 := Aside0.mk (dbelow_step (w := w) (by repeat (first | exact DBelow.refl _ _ | exact HB3.out | exact HB4.out | exact HB5.out | exact HB6.out | exact HB7.out | (refine DBelow.alloc ?_ (by simp <;> omega) _) | apply dpw_below_drewN | (refine DBelow.setCell ?_ (by simp <;> omega) _))) hb5); obtain ⟨hc5, hf5⟩ := bcell hb5; have hz5a : w.heap.size < w5.heap.size := (by have := hb5.size; simp at this; omega); have hz5b : w.heap.size + 1 < w5.heap.size := (by have := hb5.size; simp at this; omega); have hz5c : w.heap.size + 1 + 1 < w5.heap.size := (by have := hb5.size; simp at this; omega); clear hb5))
  rw [rounds_succ]
  go_wp2_with (first | (go_at_call 22; refine (version_May.calls a b c none 0 [] 70 _ (by exact ⟨rfl, by simp, fun h_ => absurd h_ (by simp)⟩) (Nat.le_refl _) (by exact GW.dbelow HG.out (by repeat (first | exact DBelow.refl _ _ | exact HB3.out | exact HB4.out | exact HB5.out | exact HB6.out | exact HB7.out | (refine DBelow.alloc ?_ (by simp <;> omega) _) | apply dpw_below_drewN | (refine DBelow.setCell ?_ (by simp <;> omega) _)))) HMAY.out).mono ?_; rintro e w6 ⟨rfl, hb6⟩; have HB6 := Aside0.mk (dbelow_step (w := w) (by repeat (first | exact DBelow.refl _ _ | exact HB3.out | exact HB4.out | exact HB5.out | exact HB6.out | exact HB7.out | (refine DBelow.alloc ?_ (by simp <;> omega) _) | apply dpw_below_drewN | (refine DBelow.setCell ?_ (by simp <;> omega) _))) hb6); obtain ⟨hc6, hf6⟩ := bcell hb6; have hz6a : w.heap.size < w6.heap.size := (by have := hb6.size; simp at this; omega); have hz6b : w.heap.size + 1 < w6.heap.size := (by have := hb6.size; simp at this; omega); have hz6c : w.heap.size + 1 + 1 < w6.heap.size := (by have := hb6.size; simp at this; omega); clear hb6) | (go_at_call 15; go_in))
  have c0 : (w6).cell? ⟨w.heap.size, 0, none⟩ = some (.int .u32 0) := by go_simp
  have c1 : (w6).cell? ⟨w.heap.size, 1, none⟩ = some (.int .u32 0) := by go_simp
  have c2 : (w6).cell? ⟨w.heap.size, 2, none⟩ = some (.int .u32 0) := by go_simp
  have c3 : (w6).cell? ⟨w.heap.size, 3, none⟩ = some (.slice none 0 0) := by go_simp
  refine bodyPost_ret (ret28 _ (w6) w.heap.size _ _ _ _ _ _ _ _ _ rfl rfl c0 c1 c2 c3) rfl ⟨_, rfl, Kd.R_nil _ _ _ _ _, ?_⟩
  repeat (first | exact DBelow.refl _ _ | exact HB3.out | exact HB4.out | exact HB5.out | exact HB6.out | exact HB7.out | (refine DBelow.alloc ?_ (by simp <;> omega) _) | apply dpw_below_drewN | (refine DBelow.setCell ?_ (by simp <;> omega) _))
set_option maxHeartbeats 8000000 in
set_option maxRecDepth 100000 in
theorem read_pre (a0 x y z : ByteArray) (a b c : Int) (w : World) (hs : a0.size ≤ 128) (hh1 : (headB a0).size ≤ 128) (hh2 : (tailB a0).size ≤ 128) (HG : Aside0 (GW w)) (HL : Aside0 (spl (headB a0) = [x, y, z])) (HXA : Aside0 (version_number.f x = some (a, true))) (HYA : Aside0 (version_number.f y = some (b, true))) (HZA : Aside0 (version_number.f z = some (c, true)))
    (hp : preB a0 = true) (l : List ByteArray) (HT : Aside0 (spl (tailB a0) = l)) (hl : l.length ≤ 200) (HMAY : Aside0 (version_May.f a b c l = some 0)) :
    Calls Tryz.prog 7 #[.string a0] w fun e w' => ∃ v3_ : Value, e = .returned (.tuple #[.agg #[.int .u32 a, .int .u32 b, .int .u32 c, v3_], .int .i64 0]) ∧ Kd.R Kd.string 9 w' w.heap.size (fun _ => True) v3_ l ∧ DBelow w.heap.size w w' := by
  have i0 : ∀ (a b c : Value) w, (Instr.index 48 (.agg #[a, b, c]) (.int .i64 0)).run Tryz.prog w = .ok a w := fun _ _ _ _ => by kernel_rfl
  have i1 : ∀ (a b c : Value) w, (Instr.index 48 (.agg #[a, b, c]) (.int .i64 1)).run Tryz.prog w = .ok b w := fun _ _ _ _ => by kernel_rfl
  have i2 : ∀ (a b c : Value) w, (Instr.index 48 (.agg #[a, b, c]) (.int .i64 2)).run Tryz.prog w = .ok c w := fun _ _ _ _ => by kernel_rfl
  go_enter Tryz.func7, Tryz.ntmps7
  go_wp2_with (first | (go_at_call 19; refine (cut_calls a0 hs _ (by exact GW.dbelow HG.out ((DBelow.refl _ _).alloc (Nat.le_refl _) _))).mono ?_; rintro e w1 ⟨rfl, ⟨n1, rfl⟩⟩) | (go_at_call 20; refine (split_calls (headB a0) hh1 _ (by exact GW.dbelow HG.out (dpw_below_drewN ((DBelow.refl _ _).alloc (Nat.le_refl _) _) _)) [x, y, z] HL.out 3 rfl #[.string x, .string y, .string z] rfl).mono ?_; rintro e w2 ⟨rfl, rfl⟩))
  refine wp_loop_rounds 4 ?_
  rw [rounds_succ]
  go_wp2_with (first | (go_at_call 21; refine (version_number.calls x a true _ (by exact GW.dbelow HG.out (by repeat (first | exact DBelow.refl _ _ | exact HB3.out | exact HB4.out | exact HB5.out | exact HB6.out | exact HB7.out | (refine DBelow.alloc ?_ (by simp <;> omega) _) | apply dpw_below_drewN | (refine DBelow.setCell ?_ (by simp <;> omega) _)))) HXA.out).mono ?_; rintro e w3 ⟨rfl, hb3⟩; have HB3 := Aside0.mk (dbelow_step (w := w) (by repeat (first | exact DBelow.refl _ _ | exact HB3.out | exact HB4.out | exact HB5.out | exact HB6.out | exact HB7.out | (refine DBelow.alloc ?_ (by simp <;> omega) _) | apply dpw_below_drewN | (refine DBelow.setCell ?_ (by simp <;> omega) _))) hb3); obtain ⟨hc3, hf3⟩ := bcell hb3; have hz3a : w.heap.size < w3.heap.size := (by have := hb3.size; simp at this; omega); have hz3b : w.heap.size + 1 < w3.heap.size := (by have := hb3.size; simp at this; omega); have hz3c : w.heap.size + 1 + 1 < w3.heap.size := (by have := hb3.size; simp at this; omega); clear hb3))
  rw [rounds_succ]
  go_wp2_with (first | (go_at_call 21; refine (version_number.calls y b true _ (by exact GW.dbelow HG.out (by repeat (first | exact DBelow.refl _ _ | exact HB3.out | exact HB4.out | exact HB5.out | exact HB6.out | exact HB7.out | (refine DBelow.alloc ?_ (by simp <;> omega) _) | apply dpw_below_drewN | (refine DBelow.setCell ?_ (by simp <;> omega) _)))) HYA.out).mono ?_; rintro e w4 ⟨rfl, hb4⟩; have HB4 := Aside0.mk (dbelow_step (w := w) (by repeat (first | exact DBelow.refl _ _ | exact HB3.out | exact HB4.out | exact HB5.out | exact HB6.out | exact HB7.out | (refine DBelow.alloc ?_ (by simp <;> omega) _) | apply dpw_below_drewN | (refine DBelow.setCell ?_ (by simp <;> omega) _))) hb4); obtain ⟨hc4, hf4⟩ := bcell hb4; have hz4a : w.heap.size < w4.heap.size := (by have := hb4.size; simp at this; omega); have hz4b : w.heap.size + 1 < w4.heap.size := (by have := hb4.size; simp at this; omega); have hz4c : w.heap.size + 1 + 1 < w4.heap.size := (by have := hb4.size; simp at this; omega); clear hb4))
  rw [rounds_succ]
  go_wp2_with (first | (go_at_call 21; refine (version_number.calls z c true _ (by exact GW.dbelow HG.out (by repeat (first | exact DBelow.refl _ _ | exact HB3.out | exact HB4.out | exact HB5.out | exact HB6.out | exact HB7.out | (refine DBelow.alloc ?_ (by simp <;> omega) _) | apply dpw_below_drewN | (refine DBelow.setCell ?_ (by simp <;> omega) _)))) HZA.out).mono ?_; rintro e w5 ⟨rfl, hb5⟩; have HB5 := Aside0.mk (dbelow_step (w := w) (by repeat (first | exact DBelow.refl _ _ | exact HB3.out | exact HB4.out | exact HB5.out | exact HB6.out | exact HB7.out | (refine DBelow.alloc ?_ (by simp <;> omega) _) | apply dpw_below_drewN | (refine DBelow.setCell ?_ (by simp <;> omega) _))) hb5); obtain ⟨hc5, hf5⟩ := bcell hb5; have hz5a : w.heap.size < w5.heap.size := (by have := hb5.size; simp at this; omega); have hz5b : w.heap.size + 1 < w5.heap.size := (by have := hb5.size; simp at this; omega); have hz5c : w.heap.size + 1 + 1 < w5.heap.size := (by have := hb5.size; simp at this; omega); clear hb5))
  rw [rounds_succ]
  go_wp2_with (first | (go_at_call 20; refine (split_calls (tailB a0) hh2 _ (by exact GW.dbelow HG.out (by repeat (first | exact DBelow.refl _ _ | exact HB3.out | exact HB4.out | exact HB5.out | exact HB6.out | exact HB7.out | (refine DBelow.alloc ?_ (by simp <;> omega) _) | apply dpw_below_drewN | (refine DBelow.setCell ?_ (by simp <;> omega) _)))) l HT.out l.length rfl _ rfl).mono ?_; rintro e w6 ⟨rfl, rfl⟩) | (go_at_call 22; refine (version_May.calls a b c (some ⟨w5.heap.size, 0, none⟩) l.length l 0 _ (by exact C_alloc' _ l hl _ (by simp)) (Nat.le_refl _) (by exact GW.dbelow HG.out (by repeat (first | exact DBelow.refl _ _ | exact HB3.out | exact HB4.out | exact HB5.out | exact HB6.out | exact HB7.out | (refine DBelow.alloc ?_ (by simp <;> omega) _) | apply dpw_below_drewN | (refine DBelow.setCell ?_ (by simp <;> omega) _)))) HMAY.out).mono ?_; rintro e w7 ⟨rfl, hb7⟩; have HB7 := Aside0.mk (dbelow_step (w := w) (by repeat (first | exact DBelow.refl _ _ | exact HB3.out | exact HB4.out | exact HB5.out | exact HB6.out | exact HB7.out | (refine DBelow.alloc ?_ (by simp <;> omega) _) | apply dpw_below_drewN | (refine DBelow.setCell ?_ (by simp <;> omega) _))) hb7); obtain ⟨hc7, hf7⟩ := bcell hb7; have HBLK := Aside0.mk ((hb7.block w5.heap.size (by simp)).trans (blk_new _ _ _ (by simp))); have hz7a : w.heap.size < w7.heap.size := (by have := hb7.size; simp at this; omega); have hz7b : w.heap.size + 1 < w7.heap.size := (by have := hb7.size; simp at this; omega); have hz7c : w.heap.size + 1 + 1 < w7.heap.size := (by have := hb7.size; simp at this; omega); have hq7 : w7.cell? ⟨w.heap.size + 1 + 1, 3, none⟩ = some (.slice (some ⟨w5.heap.size, 0, none⟩) l.length l.length) := (by go_simp); have hr7 : w7.frozen? ⟨w.heap.size + 1 + 1, 3, none⟩ = false := (by go_simp); clear hb7) | (go_at_call 15; (refine (clip_calls w5.heap.size l.length _).mono ?_; rintro e w8 ⟨rfl, rfl⟩; have hs7 : (w7.setCell ⟨w.heap.size + 1 + 1, 3, none⟩ (.slice (some ⟨w5.heap.size, 0, none⟩) l.length l.length)).cell? ⟨w.heap.size + 1 + 1, 3, none⟩ = some (.slice (some ⟨w5.heap.size, 0, none⟩) l.length l.length) := World.cell?_setCell_same _ _ _ hq7)))
  have c0 : (w7.setCell ⟨w.heap.size + 1 + 1, 3, none⟩ (.slice (some ⟨w5.heap.size, 0, none⟩) l.length l.length)).cell? ⟨w.heap.size, 0, none⟩ = some (.int .u32 0) := by go_simp
  have c1 : (w7.setCell ⟨w.heap.size + 1 + 1, 3, none⟩ (.slice (some ⟨w5.heap.size, 0, none⟩) l.length l.length)).cell? ⟨w.heap.size, 1, none⟩ = some (.int .u32 0) := by go_simp
  have c2 : (w7.setCell ⟨w.heap.size + 1 + 1, 3, none⟩ (.slice (some ⟨w5.heap.size, 0, none⟩) l.length l.length)).cell? ⟨w.heap.size, 2, none⟩ = some (.int .u32 0) := by go_simp
  have c3 : (w7.setCell ⟨w.heap.size + 1 + 1, 3, none⟩ (.slice (some ⟨w5.heap.size, 0, none⟩) l.length l.length)).cell? ⟨w.heap.size, 3, none⟩ = some (.slice none 0 0) := by go_simp
  refine bodyPost_ret (ret28 _ (w7.setCell ⟨w.heap.size + 1 + 1, 3, none⟩ (.slice (some ⟨w5.heap.size, 0, none⟩) l.length l.length)) w.heap.size _ _ _ _ _ _ _ _ _ rfl rfl c0 c1 c2 c3) rfl ⟨_, rfl, R_block _ _ w5.heap.size l hl (by omega) (blk_set5 _ _ _ _ _ _ _ _ _ _ HBLK.out (by omega) (by omega)), ?_⟩
  repeat (first | exact DBelow.refl _ _ | exact HB3.out | exact HB4.out | exact HB5.out | exact HB6.out | exact HB7.out | (refine DBelow.alloc ?_ (by simp <;> omega) _) | apply dpw_below_drewN | (refine DBelow.setCell ?_ (by simp <;> omega) _))
set_option maxHeartbeats 8000000 in
set_option maxRecDepth 100000 in
theorem read_prebad (a0 x y z : ByteArray) (a b c : Int) (w : World) (hs : a0.size ≤ 128) (hh1 : (headB a0).size ≤ 128) (hh2 : (tailB a0).size ≤ 128) (HG : Aside0 (GW w)) (HL : Aside0 (spl (headB a0) = [x, y, z])) (HXA : Aside0 (version_number.f x = some (a, true))) (HYA : Aside0 (version_number.f y = some (b, true))) (HZA : Aside0 (version_number.f z = some (c, true)))
    (hp : preB a0 = true) (l : List ByteArray) (HT : Aside0 (spl (tailB a0) = l)) (hl : l.length ≤ 200) (HMAY : Aside0 (version_May.f a b c l = some 70)) :
    Calls Tryz.prog 7 #[.string a0] w fun e w' => ∃ v3_ : Value, e = .returned (.tuple #[.agg #[.int .u32 0, .int .u32 0, .int .u32 0, v3_], .int .i64 70]) ∧ Kd.R Kd.string 9 w' w.heap.size (fun _ => True) v3_ [] ∧ DBelow w.heap.size w w' := by
  have i0 : ∀ (a b c : Value) w, (Instr.index 48 (.agg #[a, b, c]) (.int .i64 0)).run Tryz.prog w = .ok a w := fun _ _ _ _ => by kernel_rfl
  have i1 : ∀ (a b c : Value) w, (Instr.index 48 (.agg #[a, b, c]) (.int .i64 1)).run Tryz.prog w = .ok b w := fun _ _ _ _ => by kernel_rfl
  have i2 : ∀ (a b c : Value) w, (Instr.index 48 (.agg #[a, b, c]) (.int .i64 2)).run Tryz.prog w = .ok c w := fun _ _ _ _ => by kernel_rfl
  go_enter Tryz.func7, Tryz.ntmps7
  go_wp2_with (first | (go_at_call 19; refine (cut_calls a0 hs _ (by exact GW.dbelow HG.out ((DBelow.refl _ _).alloc (Nat.le_refl _) _))).mono ?_; rintro e w1 ⟨rfl, ⟨n1, rfl⟩⟩) | (go_at_call 20; refine (split_calls (headB a0) hh1 _ (by exact GW.dbelow HG.out (dpw_below_drewN ((DBelow.refl _ _).alloc (Nat.le_refl _) _) _)) [x, y, z] HL.out 3 rfl #[.string x, .string y, .string z] rfl).mono ?_; rintro e w2 ⟨rfl, rfl⟩))
  refine wp_loop_rounds 4 ?_
  rw [rounds_succ]
  go_wp2_with (first | (go_at_call 21; refine (version_number.calls x a true _ (by exact GW.dbelow HG.out (by repeat (first | exact DBelow.refl _ _ | exact HB3.out | exact HB4.out | exact HB5.out | exact HB6.out | exact HB7.out | (refine DBelow.alloc ?_ (by simp <;> omega) _) | apply dpw_below_drewN | (refine DBelow.setCell ?_ (by simp <;> omega) _)))) HXA.out).mono ?_; rintro e w3 ⟨rfl, hb3⟩; have HB3 := Aside0.mk (dbelow_step (w := w) (by repeat (first | exact DBelow.refl _ _ | exact HB3.out | exact HB4.out | exact HB5.out | exact HB6.out | exact HB7.out | (refine DBelow.alloc ?_ (by simp <;> omega) _) | apply dpw_below_drewN | (refine DBelow.setCell ?_ (by simp <;> omega) _))) hb3); obtain ⟨hc3, hf3⟩ := bcell hb3; have hz3a : w.heap.size < w3.heap.size := (by have := hb3.size; simp at this; omega); have hz3b : w.heap.size + 1 < w3.heap.size := (by have := hb3.size; simp at this; omega); have hz3c : w.heap.size + 1 + 1 < w3.heap.size := (by have := hb3.size; simp at this; omega); clear hb3))
  rw [rounds_succ]
  go_wp2_with (first | (go_at_call 21; refine (version_number.calls y b true _ (by exact GW.dbelow HG.out (by repeat (first | exact DBelow.refl _ _ | exact HB3.out | exact HB4.out | exact HB5.out | exact HB6.out | exact HB7.out | (refine DBelow.alloc ?_ (by simp <;> omega) _) | apply dpw_below_drewN | (refine DBelow.setCell ?_ (by simp <;> omega) _)))) HYA.out).mono ?_; rintro e w4 ⟨rfl, hb4⟩; have HB4 := Aside0.mk (dbelow_step (w := w) (by repeat (first | exact DBelow.refl _ _ | exact HB3.out | exact HB4.out | exact HB5.out | exact HB6.out | exact HB7.out | (refine DBelow.alloc ?_ (by simp <;> omega) _) | apply dpw_below_drewN | (refine DBelow.setCell ?_ (by simp <;> omega) _))) hb4); obtain ⟨hc4, hf4⟩ := bcell hb4; have hz4a : w.heap.size < w4.heap.size := (by have := hb4.size; simp at this; omega); have hz4b : w.heap.size + 1 < w4.heap.size := (by have := hb4.size; simp at this; omega); have hz4c : w.heap.size + 1 + 1 < w4.heap.size := (by have := hb4.size; simp at this; omega); clear hb4))
  rw [rounds_succ]
  go_wp2_with (first | (go_at_call 21; refine (version_number.calls z c true _ (by exact GW.dbelow HG.out (by repeat (first | exact DBelow.refl _ _ | exact HB3.out | exact HB4.out | exact HB5.out | exact HB6.out | exact HB7.out | (refine DBelow.alloc ?_ (by simp <;> omega) _) | apply dpw_below_drewN | (refine DBelow.setCell ?_ (by simp <;> omega) _)))) HZA.out).mono ?_; rintro e w5 ⟨rfl, hb5⟩; have HB5 := Aside0.mk (dbelow_step (w := w) (by repeat (first | exact DBelow.refl _ _ | exact HB3.out | exact HB4.out | exact HB5.out | exact HB6.out | exact HB7.out | (refine DBelow.alloc ?_ (by simp <;> omega) _) | apply dpw_below_drewN | (refine DBelow.setCell ?_ (by simp <;> omega) _))) hb5); obtain ⟨hc5, hf5⟩ := bcell hb5; have hz5a : w.heap.size < w5.heap.size := (by have := hb5.size; simp at this; omega); have hz5b : w.heap.size + 1 < w5.heap.size := (by have := hb5.size; simp at this; omega); have hz5c : w.heap.size + 1 + 1 < w5.heap.size := (by have := hb5.size; simp at this; omega); clear hb5))
  rw [rounds_succ]
  go_wp2_with (first | (go_at_call 20; refine (split_calls (tailB a0) hh2 _ (by exact GW.dbelow HG.out (by repeat (first | exact DBelow.refl _ _ | exact HB3.out | exact HB4.out | exact HB5.out | exact HB6.out | exact HB7.out | (refine DBelow.alloc ?_ (by simp <;> omega) _) | apply dpw_below_drewN | (refine DBelow.setCell ?_ (by simp <;> omega) _)))) l HT.out l.length rfl _ rfl).mono ?_; rintro e w6 ⟨rfl, rfl⟩) | (go_at_call 22; refine (version_May.calls a b c (some ⟨w5.heap.size, 0, none⟩) l.length l 70 _ (by exact C_alloc' _ l hl _ (by simp)) (Nat.le_refl _) (by exact GW.dbelow HG.out (by repeat (first | exact DBelow.refl _ _ | exact HB3.out | exact HB4.out | exact HB5.out | exact HB6.out | exact HB7.out | (refine DBelow.alloc ?_ (by simp <;> omega) _) | apply dpw_below_drewN | (refine DBelow.setCell ?_ (by simp <;> omega) _)))) HMAY.out).mono ?_; rintro e w7 ⟨rfl, hb7⟩; have HB7 := Aside0.mk (dbelow_step (w := w) (by repeat (first | exact DBelow.refl _ _ | exact HB3.out | exact HB4.out | exact HB5.out | exact HB6.out | exact HB7.out | (refine DBelow.alloc ?_ (by simp <;> omega) _) | apply dpw_below_drewN | (refine DBelow.setCell ?_ (by simp <;> omega) _))) hb7); obtain ⟨hc7, hf7⟩ := bcell hb7; have HBLK := Aside0.mk ((hb7.block w5.heap.size (by simp)).trans (blk_new _ _ _ (by simp))); have hz7a : w.heap.size < w7.heap.size := (by have := hb7.size; simp at this; omega); have hz7b : w.heap.size + 1 < w7.heap.size := (by have := hb7.size; simp at this; omega); have hz7c : w.heap.size + 1 + 1 < w7.heap.size := (by have := hb7.size; simp at this; omega); have hq7 : w7.cell? ⟨w.heap.size + 1 + 1, 3, none⟩ = some (.slice (some ⟨w5.heap.size, 0, none⟩) l.length l.length) := (by go_simp); have hr7 : w7.frozen? ⟨w.heap.size + 1 + 1, 3, none⟩ = false := (by go_simp); clear hb7) | (go_at_call 15; (refine (clip_calls w5.heap.size l.length _).mono ?_; rintro e w8 ⟨rfl, rfl⟩; have hs7 : (w7.setCell ⟨w.heap.size + 1 + 1, 3, none⟩ (.slice (some ⟨w5.heap.size, 0, none⟩) l.length l.length)).cell? ⟨w.heap.size + 1 + 1, 3, none⟩ = some (.slice (some ⟨w5.heap.size, 0, none⟩) l.length l.length) := World.cell?_setCell_same _ _ _ hq7)))
  have c0 : (w7).cell? ⟨w.heap.size, 0, none⟩ = some (.int .u32 0) := by go_simp
  have c1 : (w7).cell? ⟨w.heap.size, 1, none⟩ = some (.int .u32 0) := by go_simp
  have c2 : (w7).cell? ⟨w.heap.size, 2, none⟩ = some (.int .u32 0) := by go_simp
  have c3 : (w7).cell? ⟨w.heap.size, 3, none⟩ = some (.slice none 0 0) := by go_simp
  refine bodyPost_ret (ret28 _ (w7) w.heap.size _ _ _ _ _ _ _ _ _ rfl rfl c0 c1 c2 c3) rfl ⟨_, rfl, Kd.R_nil _ _ _ _ _, ?_⟩
  repeat (first | exact DBelow.refl _ _ | exact HB3.out | exact HB4.out | exact HB5.out | exact HB6.out | exact HB7.out | (refine DBelow.alloc ?_ (by simp <;> omega) _) | apply dpw_below_drewN | (refine DBelow.setCell ?_ (by simp <;> omega) _))
set_option maxHeartbeats 8000000 in
set_option maxRecDepth 100000 in
theorem version_Read.calls (a0 : ByteArray) (r1 : Int) (r2 : Int) (r3 : Int) (r4 : List ByteArray) (r5 : Int) (w : World) (hG : GW w) (h : version_Read.f a0 = some (r1, r2, r3, r4, r5)) :
    Calls Tryz.prog 7 #[.string a0] w fun e w' => ∃ v3_ : Value, e = .returned (.tuple #[.agg #[.int .u32 r1, .int .u32 r2, .int .u32 r3, v3_], .int .i64 r5]) ∧ Kd.R Kd.string 9 w' w.heap.size (fun _ => True) v3_ r4 ∧ DBelow w.heap.size w w' := by
  have HG := Aside0.mk hG
  have HH := Aside0.mk (Option.some.inj h)
  clear hG h
  by_cases hs : a0.size ≤ 128
  case neg =>
    have hr := HH.out
    rw [if_neg hs] at hr
    cases hr
    have hs' : 128 < a0.size := by omega
    clear hs
    go_enter Tryz.func7, Tryz.ntmps7
    go_wp2
    refine bodyPost_ret (v := .tuple #[.agg #[.int .u32 0, .int .u32 0, .int .u32 0, .slice none 0 0], .int .i64 70]) (by simp [results, Tryz.results7, go_sem]) rfl ⟨_, rfl, Kd.R_nil _ _ _ _ _, ?_⟩
    exact (DBelow.refl _ _).alloc (Nat.le_refl _) _
  case pos =>
    have hr := HH.out
    rw [if_pos hs] at hr
    have hle := cut_le a0
    have hh1 : (headB a0).size ≤ 128 := by omega
    have hh2 : (tailB a0).size ≤ 128 := by omega
    clear hle
    by_cases h3 : (spl (headB a0)).length = 3
    case neg =>
      have hp : readP (spl (headB a0)) (if preB a0 = true then spl (tailB a0) else []) = none := by
        unfold readP
        split
        · rename_i x y z hxyz; exact absurd (by rw [hxyz]; rfl) h3
        · rfl
      rw [hp] at hr
      cases hr
      generalize hl : spl (headB a0) = l at *
      have HL := Aside0.mk hl
      have hne : ((l.length : Int) != 3) = true := bne_iff_ne.2 (by omega)
      clear hp hl h3
      go_enter Tryz.func7, Tryz.ntmps7
      go_wp2_with (first | (go_at_call 19; refine (cut_calls a0 hs _ (by exact GW.dbelow HG.out ((DBelow.refl _ _).alloc (Nat.le_refl _) _))).mono ?_; rintro e w1 ⟨rfl, ⟨n1, rfl⟩⟩) | (go_at_call 20; refine (split_calls (headB a0) hh1 _ (by exact GW.dbelow HG.out (dpw_below_drewN ((DBelow.refl _ _).alloc (Nat.le_refl _) _) _)) l HL.out l.length rfl _ rfl).mono ?_; rintro e w2 ⟨rfl, rfl⟩))
      refine bodyPost_ret (v := .tuple #[.agg #[.int .u32 0, .int .u32 0, .int .u32 0, .slice none 0 0], .int .i64 70]) (by simp [results, Tryz.results7, go_sem]) rfl ⟨_, rfl, Kd.R_nil _ _ _ _ _, ?_⟩
      repeat (first | exact DBelow.refl _ _ | exact HB.out | (refine DBelow.alloc ?_ (by simp <;> omega) _) | apply dpw_below_drewN | (refine DBelow.setCell ?_ (by simp) _))
    case pos =>
      obtain ⟨x, y, z, hxyz⟩ : ∃ x y z, spl (headB a0) = [x, y, z] := by
        match hq : spl (headB a0), h3 with
        | [x, y, z], _ => exact ⟨x, y, z, rfl⟩
      have hx : x.size ≤ 128 := Nat.le_trans (spl_le (headB a0) x (by rw [hxyz]; simp)) hh1
      have hy : y.size ≤ 128 := Nat.le_trans (spl_le (headB a0) y (by rw [hxyz]; simp)) hh1
      have hz : z.size ≤ 128 := Nat.le_trans (spl_le (headB a0) z (by rw [hxyz]; simp)) hh1
      have HL := Aside0.mk hxyz
      rw [hxyz] at hr
      have i0 : ∀ (a b c : Value) w, (Instr.index 48 (.agg #[a, b, c]) (.int .i64 0)).run Tryz.prog w = .ok a w := fun _ _ _ _ => by kernel_rfl
      have i1 : ∀ (a b c : Value) w, (Instr.index 48 (.agg #[a, b, c]) (.int .i64 1)).run Tryz.prog w = .ok b w := fun _ _ _ _ => by kernel_rfl
      have i2 : ∀ (a b c : Value) w, (Instr.index 48 (.agg #[a, b, c]) (.int .i64 2)).run Tryz.prog w = .ok c w := fun _ _ _ _ => by kernel_rfl
      cases hnx : numV x with
      | none =>
        obtain ⟨q, hna⟩ := num_no hnx hx
        have HNA := Aside0.mk hna
        have hp : readP [x, y, z] (if preB a0 = true then spl (tailB a0) else []) = none := by simp only [readP, hnx]
        rw [hp] at hr
        cases hr
        clear hp hna hxyz h3 hnx
        go_enter Tryz.func7, Tryz.ntmps7
        go_wp2_with (first | (go_at_call 19; refine (cut_calls a0 hs _ (by exact GW.dbelow HG.out ((DBelow.refl _ _).alloc (Nat.le_refl _) _))).mono ?_; rintro e w1 ⟨rfl, ⟨n1, rfl⟩⟩) | (go_at_call 20; refine (split_calls (headB a0) hh1 _ (by exact GW.dbelow HG.out (dpw_below_drewN ((DBelow.refl _ _).alloc (Nat.le_refl _) _) _)) [x, y, z] HL.out 3 rfl #[.string x, .string y, .string z] rfl).mono ?_; rintro e w2 ⟨rfl, rfl⟩))
        refine wp_loop_rounds 4 ?_
        rw [rounds_succ]
        go_wp2_with (first | (go_at_call 21; refine (version_number.calls x q false _ (by exact GW.dbelow HG.out (by repeat (first | exact DBelow.refl _ _ | exact HB3.out | exact HB4.out | exact HB5.out | exact HB6.out | exact HB7.out | (refine DBelow.alloc ?_ (by simp <;> omega) _) | apply dpw_below_drewN | (refine DBelow.setCell ?_ (by simp <;> omega) _)))) HNA.out).mono ?_; rintro e w3 ⟨rfl, hb3⟩; have HB3 := Aside0.mk (dbelow_step (w := w) (by repeat (first | exact DBelow.refl _ _ | exact HB3.out | exact HB4.out | exact HB5.out | exact HB6.out | exact HB7.out | (refine DBelow.alloc ?_ (by simp <;> omega) _) | apply dpw_below_drewN | (refine DBelow.setCell ?_ (by simp <;> omega) _))) hb3); obtain ⟨hc3, hf3⟩ := bcell hb3; have hz3a : w.heap.size < w3.heap.size := (by have := hb3.size; simp at this; omega); have hz3b : w.heap.size + 1 < w3.heap.size := (by have := hb3.size; simp at this; omega); have hz3c : w.heap.size + 1 + 1 < w3.heap.size := (by have := hb3.size; simp at this; omega); clear hb3))
        have c0 : w3.cell? ⟨w.heap.size, 0, none⟩ = some (.int .u32 0) := by go_simp
        have c1 : w3.cell? ⟨w.heap.size, 1, none⟩ = some (.int .u32 0) := by go_simp
        have c2 : w3.cell? ⟨w.heap.size, 2, none⟩ = some (.int .u32 0) := by go_simp
        have c3 : w3.cell? ⟨w.heap.size, 3, none⟩ = some (.slice none 0 0) := by go_simp
        refine bodyPost_ret (ret28 _ w3 w.heap.size _ _ _ _ _ _ _ _ _ rfl rfl c0 c1 c2 c3) rfl ⟨_, rfl, Kd.R_nil _ _ _ _ _, ?_⟩
        repeat (first | exact DBelow.refl _ _ | exact HB3.out | exact HB4.out | exact HB5.out | exact HB6.out | exact HB7.out | (refine DBelow.alloc ?_ (by simp <;> omega) _) | apply dpw_below_drewN | (refine DBelow.setCell ?_ (by simp <;> omega) _))
      | some a =>
        have HXA := Aside0.mk (num_yes hnx).1
        cases hny : numV y with
        | none =>
          obtain ⟨q, hna⟩ := num_no hny hy
          have HNA := Aside0.mk hna
          have hp : readP [x, y, z] (if preB a0 = true then spl (tailB a0) else []) = none := by simp only [readP, hnx, hny]
          rw [hp] at hr
          cases hr
          clear hp hna hxyz h3 hnx hny
          go_enter Tryz.func7, Tryz.ntmps7
          go_wp2_with (first | (go_at_call 19; refine (cut_calls a0 hs _ (by exact GW.dbelow HG.out ((DBelow.refl _ _).alloc (Nat.le_refl _) _))).mono ?_; rintro e w1 ⟨rfl, ⟨n1, rfl⟩⟩) | (go_at_call 20; refine (split_calls (headB a0) hh1 _ (by exact GW.dbelow HG.out (dpw_below_drewN ((DBelow.refl _ _).alloc (Nat.le_refl _) _) _)) [x, y, z] HL.out 3 rfl #[.string x, .string y, .string z] rfl).mono ?_; rintro e w2 ⟨rfl, rfl⟩))
          refine wp_loop_rounds 4 ?_
          rw [rounds_succ]
          go_wp2_with (first | (go_at_call 21; refine (version_number.calls x a true _ (by exact GW.dbelow HG.out (by repeat (first | exact DBelow.refl _ _ | exact HB3.out | exact HB4.out | exact HB5.out | exact HB6.out | exact HB7.out | (refine DBelow.alloc ?_ (by simp <;> omega) _) | apply dpw_below_drewN | (refine DBelow.setCell ?_ (by simp <;> omega) _)))) HXA.out).mono ?_; rintro e w3 ⟨rfl, hb3⟩; have HB3 := Aside0.mk (dbelow_step (w := w) (by repeat (first | exact DBelow.refl _ _ | exact HB3.out | exact HB4.out | exact HB5.out | exact HB6.out | exact HB7.out | (refine DBelow.alloc ?_ (by simp <;> omega) _) | apply dpw_below_drewN | (refine DBelow.setCell ?_ (by simp <;> omega) _))) hb3); obtain ⟨hc3, hf3⟩ := bcell hb3; have hz3a : w.heap.size < w3.heap.size := (by have := hb3.size; simp at this; omega); have hz3b : w.heap.size + 1 < w3.heap.size := (by have := hb3.size; simp at this; omega); have hz3c : w.heap.size + 1 + 1 < w3.heap.size := (by have := hb3.size; simp at this; omega); clear hb3))
          rw [rounds_succ]
          go_wp2_with (first | (go_at_call 21; refine (version_number.calls y q false _ (by exact GW.dbelow HG.out (by repeat (first | exact DBelow.refl _ _ | exact HB3.out | exact HB4.out | exact HB5.out | exact HB6.out | exact HB7.out | (refine DBelow.alloc ?_ (by simp <;> omega) _) | apply dpw_below_drewN | (refine DBelow.setCell ?_ (by simp <;> omega) _)))) HNA.out).mono ?_; rintro e w4 ⟨rfl, hb4⟩; have HB4 := Aside0.mk (dbelow_step (w := w) (by repeat (first | exact DBelow.refl _ _ | exact HB3.out | exact HB4.out | exact HB5.out | exact HB6.out | exact HB7.out | (refine DBelow.alloc ?_ (by simp <;> omega) _) | apply dpw_below_drewN | (refine DBelow.setCell ?_ (by simp <;> omega) _))) hb4); obtain ⟨hc4, hf4⟩ := bcell hb4; have hz4a : w.heap.size < w4.heap.size := (by have := hb4.size; simp at this; omega); have hz4b : w.heap.size + 1 < w4.heap.size := (by have := hb4.size; simp at this; omega); have hz4c : w.heap.size + 1 + 1 < w4.heap.size := (by have := hb4.size; simp at this; omega); clear hb4))
          have c0 : w4.cell? ⟨w.heap.size, 0, none⟩ = some (.int .u32 0) := by go_simp
          have c1 : w4.cell? ⟨w.heap.size, 1, none⟩ = some (.int .u32 0) := by go_simp
          have c2 : w4.cell? ⟨w.heap.size, 2, none⟩ = some (.int .u32 0) := by go_simp
          have c3 : w4.cell? ⟨w.heap.size, 3, none⟩ = some (.slice none 0 0) := by go_simp
          refine bodyPost_ret (ret28 _ w4 w.heap.size _ _ _ _ _ _ _ _ _ rfl rfl c0 c1 c2 c3) rfl ⟨_, rfl, Kd.R_nil _ _ _ _ _, ?_⟩
          repeat (first | exact DBelow.refl _ _ | exact HB3.out | exact HB4.out | exact HB5.out | exact HB6.out | exact HB7.out | (refine DBelow.alloc ?_ (by simp <;> omega) _) | apply dpw_below_drewN | (refine DBelow.setCell ?_ (by simp <;> omega) _))
        | some b =>
          have HYA := Aside0.mk (num_yes hny).1
          cases hnz : numV z with
          | none =>
            obtain ⟨q, hna⟩ := num_no hnz hz
            have HNA := Aside0.mk hna
            have hp : readP [x, y, z] (if preB a0 = true then spl (tailB a0) else []) = none := by simp only [readP, hnx, hny, hnz]
            rw [hp] at hr
            cases hr
            clear hp hna hxyz h3 hnx hny hnz
            go_enter Tryz.func7, Tryz.ntmps7
            go_wp2_with (first | (go_at_call 19; refine (cut_calls a0 hs _ (by exact GW.dbelow HG.out ((DBelow.refl _ _).alloc (Nat.le_refl _) _))).mono ?_; rintro e w1 ⟨rfl, ⟨n1, rfl⟩⟩) | (go_at_call 20; refine (split_calls (headB a0) hh1 _ (by exact GW.dbelow HG.out (dpw_below_drewN ((DBelow.refl _ _).alloc (Nat.le_refl _) _) _)) [x, y, z] HL.out 3 rfl #[.string x, .string y, .string z] rfl).mono ?_; rintro e w2 ⟨rfl, rfl⟩))
            refine wp_loop_rounds 4 ?_
            rw [rounds_succ]
            go_wp2_with (first | (go_at_call 21; refine (version_number.calls x a true _ (by exact GW.dbelow HG.out (by repeat (first | exact DBelow.refl _ _ | exact HB3.out | exact HB4.out | exact HB5.out | exact HB6.out | exact HB7.out | (refine DBelow.alloc ?_ (by simp <;> omega) _) | apply dpw_below_drewN | (refine DBelow.setCell ?_ (by simp <;> omega) _)))) HXA.out).mono ?_; rintro e w3 ⟨rfl, hb3⟩; have HB3 := Aside0.mk (dbelow_step (w := w) (by repeat (first | exact DBelow.refl _ _ | exact HB3.out | exact HB4.out | exact HB5.out | exact HB6.out | exact HB7.out | (refine DBelow.alloc ?_ (by simp <;> omega) _) | apply dpw_below_drewN | (refine DBelow.setCell ?_ (by simp <;> omega) _))) hb3); obtain ⟨hc3, hf3⟩ := bcell hb3; have hz3a : w.heap.size < w3.heap.size := (by have := hb3.size; simp at this; omega); have hz3b : w.heap.size + 1 < w3.heap.size := (by have := hb3.size; simp at this; omega); have hz3c : w.heap.size + 1 + 1 < w3.heap.size := (by have := hb3.size; simp at this; omega); clear hb3))
            rw [rounds_succ]
            go_wp2_with (first | (go_at_call 21; refine (version_number.calls y b true _ (by exact GW.dbelow HG.out (by repeat (first | exact DBelow.refl _ _ | exact HB3.out | exact HB4.out | exact HB5.out | exact HB6.out | exact HB7.out | (refine DBelow.alloc ?_ (by simp <;> omega) _) | apply dpw_below_drewN | (refine DBelow.setCell ?_ (by simp <;> omega) _)))) HYA.out).mono ?_; rintro e w4 ⟨rfl, hb4⟩; have HB4 := Aside0.mk (dbelow_step (w := w) (by repeat (first | exact DBelow.refl _ _ | exact HB3.out | exact HB4.out | exact HB5.out | exact HB6.out | exact HB7.out | (refine DBelow.alloc ?_ (by simp <;> omega) _) | apply dpw_below_drewN | (refine DBelow.setCell ?_ (by simp <;> omega) _))) hb4); obtain ⟨hc4, hf4⟩ := bcell hb4; have hz4a : w.heap.size < w4.heap.size := (by have := hb4.size; simp at this; omega); have hz4b : w.heap.size + 1 < w4.heap.size := (by have := hb4.size; simp at this; omega); have hz4c : w.heap.size + 1 + 1 < w4.heap.size := (by have := hb4.size; simp at this; omega); clear hb4))
            rw [rounds_succ]
            go_wp2_with (first | (go_at_call 21; refine (version_number.calls z q false _ (by exact GW.dbelow HG.out (by repeat (first | exact DBelow.refl _ _ | exact HB3.out | exact HB4.out | exact HB5.out | exact HB6.out | exact HB7.out | (refine DBelow.alloc ?_ (by simp <;> omega) _) | apply dpw_below_drewN | (refine DBelow.setCell ?_ (by simp <;> omega) _)))) HNA.out).mono ?_; rintro e w5 ⟨rfl, hb5⟩; have HB5 := Aside0.mk (dbelow_step (w := w) (by repeat (first | exact DBelow.refl _ _ | exact HB3.out | exact HB4.out | exact HB5.out | exact HB6.out | exact HB7.out | (refine DBelow.alloc ?_ (by simp <;> omega) _) | apply dpw_below_drewN | (refine DBelow.setCell ?_ (by simp <;> omega) _))) hb5); obtain ⟨hc5, hf5⟩ := bcell hb5; have hz5a : w.heap.size < w5.heap.size := (by have := hb5.size; simp at this; omega); have hz5b : w.heap.size + 1 < w5.heap.size := (by have := hb5.size; simp at this; omega); have hz5c : w.heap.size + 1 + 1 < w5.heap.size := (by have := hb5.size; simp at this; omega); clear hb5))
            have c0 : w5.cell? ⟨w.heap.size, 0, none⟩ = some (.int .u32 0) := by go_simp
            have c1 : w5.cell? ⟨w.heap.size, 1, none⟩ = some (.int .u32 0) := by go_simp
            have c2 : w5.cell? ⟨w.heap.size, 2, none⟩ = some (.int .u32 0) := by go_simp
            have c3 : w5.cell? ⟨w.heap.size, 3, none⟩ = some (.slice none 0 0) := by go_simp
            refine bodyPost_ret (ret28 _ w5 w.heap.size _ _ _ _ _ _ _ _ _ rfl rfl c0 c1 c2 c3) rfl ⟨_, rfl, Kd.R_nil _ _ _ _ _, ?_⟩
            repeat (first | exact DBelow.refl _ _ | exact HB3.out | exact HB4.out | exact HB5.out | exact HB6.out | exact HB7.out | (refine DBelow.alloc ?_ (by simp <;> omega) _) | apply dpw_below_drewN | (refine DBelow.setCell ?_ (by simp <;> omega) _))
          | some c =>
            have HZA := Aside0.mk (num_yes hnz).1
            cases hpre : preB a0 with
            | false =>
              rw [hpre] at hr
              have hp : readP [x, y, z] (if false = true then spl (tailB a0) else []) = if mayV a b c [] = true then some (a, b, c, []) else none := by
                simp only [readP, hnx, hny, hnz]
                rfl
              rw [hp] at hr
              by_cases hm : mayV a b c [] = true
              · rw [if_pos hm] at hr
                cases hr
                exact read_nil a0 x y z _ _ _ w hs hh1 hh2 HG HL HXA HYA HZA hpre (Aside0.mk (by rw [version_May.f, if_pos hm]))
              · rw [if_neg hm] at hr
                cases hr
                exact read_nilbad a0 x y z _ _ _ w hs hh1 hh2 HG HL HXA HYA HZA hpre (Aside0.mk (by rw [version_May.f, if_neg hm]))
            | true =>
              rw [hpre] at hr
              have hp : readP [x, y, z] (if true = true then spl (tailB a0) else []) = if mayV a b c (spl (tailB a0)) = true then some (a, b, c, spl (tailB a0)) else none := by
                simp only [readP, hnx, hny, hnz]
                rfl
              rw [hp] at hr
              by_cases hm : mayV a b c (spl (tailB a0)) = true
              · rw [if_pos hm] at hr
                cases hr
                exact read_pre a0 x y z _ _ _ w hs hh1 hh2 HG HL HXA HYA HZA hpre _ (Aside0.mk rfl) (spl_short _ hh2) (Aside0.mk (by rw [version_May.f, if_pos hm]))
              · rw [if_neg hm] at hr
                cases hr
                exact read_prebad a0 x y z _ _ _ w hs hh1 hh2 HG HL HXA HYA HZA hpre _ (Aside0.mk rfl) (spl_short _ hh2) (Aside0.mk (by rw [version_May.f, if_neg hm]))

end Go.Proofs.YthnajibbkinlkaaGreatDoor.PV

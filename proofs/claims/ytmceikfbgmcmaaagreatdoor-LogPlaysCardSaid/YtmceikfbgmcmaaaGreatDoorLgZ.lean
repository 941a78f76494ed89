/- What Open does: the plain law. errors.Is of what a disk answers; the log's fault. A log in memory; Len, Files, Broken, At. From. The document's has. The law's test of an error, with a place. -/
import Derived.Test.YtmceikfbgmcmaaaGreatDoorNaZ
import Derived.Test.YtmceikfbgmcmaaaGreatDoorDisB
import Derived.Test.YtmceikfbgmcmaaaGreatDoorErrB
namespace Go.Proofs.YtmceikfbgmcmaaaGreatDoor.D
open Go.RowKit Go.Extern.Stop Go.Stop Go.Extern Go.Proofs.YtmceikfbgmcmaaaGreatDoorW.PrintWords Go.Proofs.YtmceikfbgmcmaaaGreatDoorW.PrintLast Go.Proofs.YtmceikfbgmcmaaaGreatDoorW.PrintMore
set_option linter.unusedVariables false
set_option linter.unusedSimpArgs false
section
/-- The records of a file that count, at most 64; how many bytes they have. -/
def got (s : ByteArray) : List BL := (recsF (tl s)).take 64
def usedF (l : List BL) : Nat := (l.map fun p => 12 + p.length).sum
/-- Looking at the files from the n-th on: the last one that counts, the records, which file is torn and what of it is kept. -/
def scanF (L : FS) : Nat → Nat → List BL → Nat × List BL × Option (Nat × Nat)
  | 0, n, acc => (n, acc, none)
  | f + 1, n, acc => match lk L (fileF n) with
    | none => (n - 1, acc, none)
    | some s => if usedF (got s) < s.size then (n, acc ++ got s, some (n, usedF (got s))) else if (got s).length < 64 then (n, acc ++ got s, none) else scanF L f (n + 1) (acc ++ got s)
/-- Files behind the n-th go. -/
def cleanF (n : Nat) : St → List ByteArray → St × Option (Nat × ByteArray)
  | s, [] => (s, none)
  | s, k :: r => if n < numberF k then (if (removeF s k).2 = 0 then cleanF n (removeF s k).1 r else ((removeF s k).1, some ((removeF s k).2, k))) else cleanF n s r
/-- What Open does to a disk, what it answers: the records, or an error and what it is of. -/
def openF (s : St) : St × Option (List BL) × Nat × ByteArray :=
  if s.dead = true then (s, none, 5, fileF 1) else
  match scanF s.L (s.L.length + 1) 1 [] with
  | (n, recs, torn) => match cleanF n s (s.L.map (·.1)) with
    | (s1, some (c, k)) => (s1, none, c, k)
    | (s1, none) => match torn with
      | none => (s1, some recs, 0, ⟨#[]⟩)
      | some (m, keep) => if (truncF s1 (fileF m) (keep : Int)).2 = 0 then ((truncF s1 (fileF m) (keep : Int)).1, some recs, 0, ⟨#[]⟩) else ((truncF s1 (fileF m) (keep : Int)).1, none, (truncF s1 (fileF m) (keep : Int)).2, fileF m)
theorem countP_split (L : FS) (k : Nat) : L.countP (fun p => decide (1 ≤ numberF p.1 ∧ numberF p.1 ≤ k + 1)) = L.countP (fun p => decide (1 ≤ numberF p.1 ∧ numberF p.1 ≤ k)) + L.countP (fun p => decide (numberF p.1 = k + 1)) := by
  induction L with
  | nil => rfl
  | cons p r ih =>
    rw [List.countP_cons, List.countP_cons, List.countP_cons, ih]
    by_cases h1 : numberF p.1 = k + 1
    · rw [decide_eq_true h1, decide_eq_true (show 1 ≤ numberF p.1 ∧ numberF p.1 ≤ k + 1 by omega), decide_eq_false (show ¬ (1 ≤ numberF p.1 ∧ numberF p.1 ≤ k) by omega), if_pos rfl, if_neg (by decide)]
      omega
    · by_cases h2 : 1 ≤ numberF p.1 ∧ numberF p.1 ≤ k
      · rw [decide_eq_false h1, decide_eq_true (show 1 ≤ numberF p.1 ∧ numberF p.1 ≤ k + 1 by omega), decide_eq_true h2, if_pos rfl, if_neg (by decide)]
        omega
      · rw [decide_eq_false h1, decide_eq_false (show ¬ (1 ≤ numberF p.1 ∧ numberF p.1 ≤ k + 1) by omega), decide_eq_false h2]
        rfl
/-- So many files are at least there. -/
theorem files_le (L : FS) (k : Nat) (hk : k < 100000000) (h : ∀ j, 1 ≤ j → j ≤ k → (lk L (fileF j)).isSome = true) : k ≤ L.length := by
  have key : ∀ m, m ≤ k → m ≤ L.countP (fun p => decide (1 ≤ numberF p.1 ∧ numberF p.1 ≤ m)) := by
    intro m
    induction m with
    | zero => intro _; exact Nat.zero_le _
    | succ m ih =>
      intro hm
      have h1 := ih (by omega)
      rw [countP_split]
      obtain ⟨p, hp, e⟩ := (lk_some_iff L (fileF (m + 1))).1 (h (m + 1) (by omega) hm)
      have h2 : 0 < L.countP (fun p => decide (numberF p.1 = m + 1)) := List.countP_pos_iff.2 ⟨p, hp, by rw [e, number_file _ (by omega)]; simp⟩
      omega
  exact Nat.le_trans (key k (Nat.le_refl _)) List.countP_le_length
theorem scan_none {L : FS} {f n : Nat} {acc : List BL} (h : lk L (fileF n) = none) : scanF L (f + 1) n acc = (n - 1, acc, none) := by rw [scanF, h]
theorem scan_torn {L : FS} {f n : Nat} {acc : List BL} {s : ByteArray} (h : lk L (fileF n) = some s) (h1 : usedF (got s) < s.size) : scanF L (f + 1) n acc = (n, acc ++ got s, some (n, usedF (got s))) := by rw [scanF, h]; simp only; rw [if_pos h1]
theorem scan_last {L : FS} {f n : Nat} {acc : List BL} {s : ByteArray} (h : lk L (fileF n) = some s) (h1 : ¬ usedF (got s) < s.size) (h2 : (got s).length < 64) : scanF L (f + 1) n acc = (n, acc ++ got s, none) := by rw [scanF, h]; simp only; rw [if_neg h1, if_pos h2]
theorem scan_next {L : FS} {f n : Nat} {acc : List BL} {s : ByteArray} (h : lk L (fileF n) = some s) (h1 : ¬ usedF (got s) < s.size) (h2 : ¬ (got s).length < 64) : scanF L (f + 1) n acc = scanF L f (n + 1) (acc ++ got s) := by rw [scanF, h]; simp only; rw [if_neg h1, if_neg h2]
theorem got_len (s : ByteArray) : (got s).length ≤ 64 := by unfold got; rw [List.length_take]; exact Nat.min_le_left _ _
theorem usedF_nil : usedF [] = 0 := rfl
theorem usedF_append (a b : List BL) : usedF (a ++ b) = usedF a + usedF b := by unfold usedF; rw [List.map_append, List.sum_append]
theorem usedF_cons (p : BL) (r : List BL) : usedF (p :: r) = 12 + p.length + usedF r := by unfold usedF; rw [List.map_cons, List.sum_cons]
/-- The records of a text lie in it. -/
theorem used_recs (k : Nat) : ∀ (l : BL), l.length ≤ k → usedF (recsF l) ≤ l.length := by
  induction k with
  | zero =>
    intro l h
    have : l = [] := List.eq_nil_of_length_eq_zero (by omega)
    subst this
    exact Nat.le_refl _
  | succ k ih =>
    intro l h
    cases hf : frontF l with
    | inl c => rw [recsF_bad hf]; exact Nat.zero_le _
    | inr p =>
      have hl := front_len hf
      rw [recsF_ok hf, usedF_cons]
      have := ih (l.drop (12 + p.length)) (by rw [List.length_drop]; omega)
      rw [List.length_drop] at this
      omega
theorem used_take (l : List BL) (k : Nat) : usedF (l.take k) ≤ usedF l := by
  have := usedF_append (l.take k) (l.drop k)
  rw [List.take_append_drop] at this
  omega
theorem used_got (s : ByteArray) : usedF (got s) ≤ s.size := by
  have h1 := used_take (recsF (tl s)) 64
  have h2 := used_recs (tl s).length (tl s) (Nat.le_refl _)
  rw [tl_size] at h2
  unfold got
  omega
theorem got_small (s : ByteArray) : ∀ p ∈ got s, p.length ≤ s.size := by
  intro p hp
  have h1 := used_got s
  have h2 : ∀ (l : List BL), p ∈ l → 12 + p.length ≤ usedF l := by
    intro l
    induction l with
    | nil => intro h; cases h
    | cons q r ih =>
      intro h
      rw [usedF_cons]
      rcases List.mem_cons.1 h with e | e
      · rw [e]; omega
      · have := ih e; omega
  have := h2 _ hp
  omega
theorem clean_skip {n : Nat} {s : St} {k : ByteArray} {r : List ByteArray} (h : ¬ n < numberF k) : cleanF n s (k :: r) = cleanF n s r := by rw [cleanF, if_neg h]
theorem clean_go {n : Nat} {s : St} {k : ByteArray} {r : List ByteArray} (h : n < numberF k) (h2 : (removeF s k).2 = 0) : cleanF n s (k :: r) = cleanF n (removeF s k).1 r := by rw [cleanF, if_pos h, if_pos h2]
theorem clean_bad {n : Nat} {s : St} {k : ByteArray} {r : List ByteArray} (h : n < numberF k) (h2 : (removeF s k).2 ≠ 0) : cleanF n s (k :: r) = ((removeF s k).1, some ((removeF s k).2, k)) := by rw [cleanF, if_pos h, if_neg h2]
end
section
theorem neq_errno (c d : Nat) (hcd : c ≠ d) (w : World) : (binOp .eql 25 (.iface 68 (.int .i64 (c : Int))) (.iface 68 (.int .i64 (d : Int)))).run Tryz.prog w = .ok (.bool false) w := by
  have hcd' : ((c : Int) == (d : Int)) = false := by rw [beq_eq_false_iff_ne]; omega
  have h : ∀ n : Nat, (Op.equalIn (n + 2) 25 (.iface 68 (.int .i64 (c : Int))) (.iface 68 (.int .i64 (d : Int)))).run Tryz.prog w = .ok false w := fun n => by
    have hc : Tryz.t68.comparable = true := by kernel_rfl
    simp [hc, hcd', hcd, Op.equalIn, run_underlying Tryz.underlying25, run_underlying Tryz.underlying68]
  simp only [binOp]
  simp [Op.equal, Op.maxDepth, h 9998]
theorem noIs72 (v : Value) (xT : TypeId) (w : World) : (Instr.typeAssert (.iface 68 v) xT 132 true).run Tryz.prog w = .ok (.tuple #[.nilIface, .bool false]) w := run_typeAssert_lacksB Tryz.underlying132 (by kernel_rfl) (by kernel_rfl) v xT w
theorem noUnwrap72 (v : Value) (xT : TypeId) (w : World) : (Instr.typeAssert (.iface 68 v) xT 135 true).run Tryz.prog w = .ok (.tuple #[.nilIface, .bool false]) w := run_typeAssert_lacksB Tryz.underlying135 (by kernel_rfl) (by kernel_rfl) v xT w
theorem noUnwraps72 (v : Value) (xT : TypeId) (w : World) : (Instr.typeAssert (.iface 68 v) xT 136 true).run Tryz.prog w = .ok (.tuple #[.nilIface, .bool false]) w := run_typeAssert_lacksB Tryz.underlying136 (by kernel_rfl) (by kernel_rfl) v xT w
set_option maxHeartbeats 16000000 in
set_option maxRecDepth 100000 in
theorem is0_calls (c d : Nat) (hcd : c ≠ d) (w : World) : Calls Tryz.prog 76 #[.iface 68 (.int .i64 (c : Int)), .iface 68 (.int .i64 (d : Int)), .bool true] w fun ev w' => ev = .returned (.bool false) ∧ w = w' := by
  have h0 := neq_errno c d hcd
  have a1 := noIs72
  have a2 := noUnwrap72
  have a3 := noUnwraps72
  clear hcd
  go_enter Tryz.func76, Tryz.ntmps76
  go_wp2
  refine wp_loop_rounds 1 ?_
  rw [rounds_succ]
  go_wp2
  go_ret
  exact ⟨rfl, rfl⟩
set_option maxHeartbeats 16000000 in
set_option maxRecDepth 100000 in
theorem is2f_calls (e c d : Nat) (hcd : c ≠ d) (name : ByteArray) (w : World) (h : FC w e c name) : Calls Tryz.prog 76 #[.iface 98 (.pointer (some ⟨e, 0, none⟩)), .iface 68 (.int .i64 (d : Int)), .bool true] w fun ev w' => ev = .returned (.bool false) ∧ Below w.heap.size w w' := by
  have HF := Aside0.mk h
  have HI0 := Aside0.mk (is0_calls c d hcd)
  clear h hcd
  have t0 := fun (v v' : Value) (w : World) => run_eql_iface_types (P := Tryz.prog) 98 68 v v' Tryz.underlying25 (by decide) w
  have a1 := noIs90
  have a2 := noUnwrap90
  have a3 := hasUnwraps90
  have m1 := methodUnwrap90
  have n1 := neq_nil72
  go_enter Tryz.func76, Tryz.ntmps76
  go_wp2_with (fail)
  refine wp_loop_rounds 1 ?_
  rw [rounds_succ]
  go_wp2_with (fail)
  refine (unwrap_calls e c name _ HF.out).mono ?_
  rintro ev w1 ⟨rfl, rfl⟩
  go_wp2_with (fail)
  refine wp_loop_rounds 2 ?_
  rw [rounds_succ]
  go_wp2_with (fail)
  refine (HI0.out _).mono ?_
  rintro ev w1 ⟨rfl, rfl⟩
  go_wp2_with (fail)
  rw [rounds_succ]
  go_wp2_with (fail)
  go_ret
  exact ⟨rfl, (Below.refl _ _).alloc (Nat.le_refl _) _⟩
set_option maxHeartbeats 16000000 in
set_option maxRecDepth 100000 in
theorem isB_calls (e c : Nat) (b : Bool) (w : World) (HI0 : Calls Tryz.prog 76 #[.iface 98 (.pointer (some ⟨e, 0, none⟩)), .iface 68 (.int .i64 (c : Int)), .bool true] w fun ev w' => ev = .returned (.bool b) ∧ Below w.heap.size w w') : Calls Tryz.prog 36 #[.iface 98 (.pointer (some ⟨e, 0, none⟩)), .iface 68 (.int .i64 (c : Int))] w fun ev w' => ev = .returned (.bool b) ∧ Below w.heap.size w w' := by
  have HI := Aside0.mk HI0
  clear HI0
  have h76 := @run_callFunc_extern Tryz.prog 75 _ Extern.ReflectliteType.typeOf Tryz.func75 (by kernel_rfl) (by kernel_rfl) (by kernel_rfl) (by kernel_rfl)
  have h136 := @run_callFunc_extern Tryz.prog 175 _ (ReflectliteType.method fun t => do Rtype.noPackHeld "Comparable" t; pure (.bool (← typeInfo t).comparable)) Tryz.func175 (by kernel_rfl) (by kernel_rfl) (by kernel_rfl) (by kernel_rfl)
  have tT := typeOf72
  have mC := methodComparable
  have cC : ∀ w : World, ((ReflectliteType.method fun t => do Rtype.noPackHeld "Comparable" t; (fun a : TypeInfo => Value.bool a.comparable) <$> typeInfo t) #[.agg #[.pointer (some ⟨13, 68, none⟩)]]).run Tryz.prog w = .ok (.bool true) w := fun w => by kernel_rfl
  have n1 := neq_nil72
  go_enter Tryz.func36, Tryz.ntmps36
  go_wp2_with (fail)
  refine HI.out.mono ?_
  rintro ev w1 ⟨rfl, hb⟩
  go_wp2_with (fail)
  go_ret
  exact ⟨rfl, hb⟩
set_option maxHeartbeats 16000000 in
set_option maxRecDepth 100000 in
theorem isNil_calls (c : Nat) (w : World) : Calls Tryz.prog 36 #[.nilIface, .iface 68 (.int .i64 (c : Int))] w fun ev w' => ev = .returned (.bool false) ∧ w = w' := by
  have n2 : ∀ (v : Value) (w : World), (binOp .eql 25 .nilIface (.iface 68 v)).run Tryz.prog w = .ok (.bool false) w := fun v w => by kernel_rfl
  have n3 : ∀ (w : World), (binOp .eql 25 .nilIface .nilIface).run Tryz.prog w = .ok (.bool true) w := fun w => by kernel_rfl
  go_enter Tryz.func36, Tryz.ntmps36
  go_wp2_with (fail)
  go_ret
  exact ⟨rfl, rfl⟩
/-- errors.Is of what a disk's call answered. -/
theorem isErr_calls (c k lo : Nat) (v : Value) (name : ByteArray) (w : World) (h : Er w lo v c name) (hk : 0 < k) : Calls Tryz.prog 36 #[v, .iface 68 (.int .i64 (k : Int))] w fun ev w' => ev = .returned (.bool (decide (c = k))) ∧ Below w.heap.size w w' := by
  rcases h with ⟨h1, rfl⟩ | ⟨h1, e, rfl, _, _, hF⟩
  · refine (isNil_calls k w).mono ?_
    rintro ev w' ⟨rfl, rfl⟩
    exact ⟨by rw [decide_eq_false (by omega)], Below.refl _ _⟩
  · by_cases hc : c = k
    · subst hc
      refine (is_calls e c name w hF).mono ?_
      rintro ev w' ⟨rfl, hb⟩
      exact ⟨by rw [decide_eq_true rfl], hb⟩
    · refine (isB_calls e k false w (is2f_calls e c k hc name w hF)).mono ?_
      rintro ev w' ⟨rfl, hb⟩
      exact ⟨by rw [decide_eq_false hc], hb⟩
/-- The log's own fault. -/
theorem lfault_calls (c : Nat) (k : Int) (w : World) : Calls Tryz.prog 32 #[.int .i64 (c : Int), .int .i64 k] w fun e w' => e = .returned (fV w.heap.size) ∧ w' = w.alloc (.cells #[.int .i64 (c : Int), .string ⟨#[]⟩, .int .i64 k, .nilIface] 100) := by
  go_enter Tryz.func32, Tryz.ntmps32
  go_wp2_with (fail)
  go_ret
  exact ⟨rfl, rfl⟩
end
section
/-- A log at q: on the disk at p, with these records. -/
def LG (w : World) (B q p : Nat) (lv : Value) (recs : List BL) (br : Bool) : Prop := w.heap[q]? = some (.cells #[.pointer (some ⟨p, 0, none⟩), lv, .bool br] 70 (0, 0)) ∧ w.ownsRow B 9 1 lv recs.length (recs.map encS) ∧ recs.length ≤ 1000000
theorem LG.cells {w : World} {B q p : Nat} {lv : Value} {recs : List BL} {br : Bool} (h : LG w B q p lv recs br) : w.cell? ⟨q, 0, none⟩ = some (.pointer (some ⟨p, 0, none⟩)) ∧ w.cell? ⟨q, 1, none⟩ = some lv ∧ w.cell? ⟨q, 2, none⟩ = some (.bool br) := by
  refine ⟨?_, ?_, ?_⟩
  · rw [cell_of_row _ _ _ _ _ _ h.1]; rfl
  · rw [cell_of_row _ _ _ _ _ _ h.1]; rfl
  · rw [cell_of_row _ _ _ _ _ _ h.1]; rfl
theorem LG.below {w w' : World} {B q p : Nat} {lv : Value} {recs : List BL} {br : Bool} (h : LG w B q p lv recs br) (hb : Below w.heap.size w w') : LG w' B q p lv recs br :=
  ⟨(hb.block q (Array.getElem?_eq_some_iff.1 h.1).1).trans h.1, own_below h.2.1 hb, h.2.2⟩
theorem own_slice {w : World} {B n : Nat} {e : TypeId} {v : Value} {xs : List Value} (h : w.ownsRow B e 1 v n xs) : ∃ a c, v = .slice a n c ∧ n ≤ c ∧ (0 < n → ∃ g, a = some ⟨g, 0, none⟩ ∧ ∀ i x, xs[i]? = some x → w.cell? ⟨g, i, none⟩ = some x) := by
  have hc := fun g hg => h.cells (g := g) hg
  rcases h.2 with ⟨rfl, h0⟩ | ⟨g, cap, cur, rfl, _, _, hn, _⟩
  · exact ⟨_, _, by rw [h0], by omega, fun q => by omega⟩
  · refine ⟨_, _, rfl, hn, fun _ => ⟨g, rfl, fun i x hx => ?_⟩⟩
    have := hc g rfl i x hx
    rw [show ((⟨g, 0, none⟩ : Addr).add i) = ⟨g, i, none⟩ by simp [Addr.add]; omega] at this
    exact this
theorem eqP (v : Addr) (w : World) : (binOp .eql 23 (.pointer (some v)) (.pointer none)).run Tryz.prog w = .ok (.bool false) w := by kernel_rfl
theorem nqP (v : Addr) (w : World) : (binOp .neq 23 (.pointer (some v)) (.pointer none)).run Tryz.prog w = .ok (.bool true) w := by kernel_rfl
theorem eqN (w : World) : (binOp .eql 23 (.pointer none) (.pointer none)).run Tryz.prog w = .ok (.bool true) w := by kernel_rfl
theorem nqN (w : World) : (binOp .neq 23 (.pointer none) (.pointer none)).run Tryz.prog w = .ok (.bool false) w := by kernel_rfl
set_option maxHeartbeats 8000000 in
theorem len_calls {B q p : Nat} {lv : Value} {recs : List BL} {br : Bool} (w : World) (h : LG w B q p lv recs br) : Calls Tryz.prog 12 #[.pointer (some ⟨q, 0, none⟩)] w fun e w' => e = .returned (.int .i64 (recs.length : Int)) ∧ w = w' := by
  obtain ⟨_, c1, _⟩ := h.cells
  obtain ⟨a, c, rfl, _, _⟩ := own_slice h.2.1
  have e0 := eqP
  clear h
  go_enter Tryz.func12, Tryz.ntmps12
  go_wp2_with (fail)
  go_ret
  exact ⟨rfl, rfl⟩
set_option maxHeartbeats 8000000 in
theorem lenNil_calls (w : World) : Calls Tryz.prog 12 #[.pointer none] w fun e w' => e = .returned (.int .i64 0) ∧ w = w' := by
  have e0 := eqN
  go_enter Tryz.func12, Tryz.ntmps12
  go_wp2_with (fail)
  go_ret
  exact ⟨rfl, rfl⟩
/-- How many files so many records have. -/
def filesN (n : Nat) : Nat := (n + 64 - 1) / 64
set_option maxHeartbeats 8000000 in
theorem files_calls {B q p : Nat} {lv : Value} {recs : List BL} {br : Bool} (w : World) (h : LG w B q p lv recs br) : Calls Tryz.prog 14 #[.pointer (some ⟨q, 0, none⟩)] w fun e w' => e = .returned (.int .i64 (filesN recs.length : Int)) ∧ w = w' := by
  have HL := Aside0.mk (len_calls w h)
  have hn := h.2.2
  obtain ⟨n, hn'⟩ : ∃ n, recs.length = n := ⟨_, rfl⟩
  rw [hn'] at HL hn ⊢
  clear h hn'
  have h1 : wrap64 ((n : Int) + 64) = (n : Int) + 64 := wrap_small _ (by omega) (by omega)
  have HV : Aside0 (((n : Int) + 64 - 1) / 64 = ((filesN n : Nat) : Int)) := ⟨by unfold filesN; omega⟩
  go_enter Tryz.func14, Tryz.ntmps14
  go_wp2_with (fail)
  refine HL.out.mono ?_
  rintro e w1 ⟨rfl, rfl⟩
  go_wp2_with (fail)
  go_ret
  exact ⟨by first | (rw [← HV.out]; rfl) | (simp [filesN]; omega), rfl⟩
set_option maxHeartbeats 8000000 in
theorem filesNil_calls (w : World) : Calls Tryz.prog 14 #[.pointer none] w fun e w' => e = .returned (.int .i64 0) ∧ w = w' := by
  have HL := Aside0.mk (lenNil_calls w)
  go_enter Tryz.func14, Tryz.ntmps14
  go_wp2_with (fail)
  refine HL.out.mono ?_
  rintro e w1 ⟨rfl, rfl⟩
  go_wp2_with (fail)
  go_ret
  exact ⟨rfl, rfl⟩
set_option maxHeartbeats 8000000 in
theorem broken_calls {B q p : Nat} {lv : Value} {recs : List BL} {br : Bool} (w : World) (h : LG w B q p lv recs br) : Calls Tryz.prog 15 #[.pointer (some ⟨q, 0, none⟩)] w fun e w' => e = .returned (.bool br) ∧ w = w' := by
  obtain ⟨_, _, c2⟩ := h.cells
  have e0 := nqP
  clear h
  go_enter Tryz.func15, Tryz.ntmps15
  go_wp2_with (fail)
  go_ret
  exact ⟨rfl, rfl⟩
set_option maxHeartbeats 8000000 in
theorem brokenNil_calls (w : World) : Calls Tryz.prog 15 #[.pointer none] w fun e w' => e = .returned (.bool false) ∧ w = w' := by
  have e0 := nqN
  go_enter Tryz.func15, Tryz.ntmps15
  go_wp2_with (fail)
  go_ret
  exact ⟨rfl, rfl⟩
/-- A fault of the log's own: a number, a place. -/
def FP (w : World) (g c : Nat) (k : Int) : Prop := w.cell? ⟨g, 0, none⟩ = some (.int .i64 (c : Int)) ∧ w.cell? ⟨g, 1, none⟩ = some (.string ⟨#[]⟩) ∧ w.cell? ⟨g, 2, none⟩ = some (.int .i64 k) ∧ w.cell? ⟨g, 3, none⟩ = some .nilIface
set_option maxHeartbeats 8000000 in
theorem atNil_calls (i : Int) (w : World) : Calls Tryz.prog 8 #[.pointer none, .int .i64 i] w fun e w' => e = .returned (.tuple #[.string ⟨#[]⟩, fV w.heap.size]) ∧ FP w' w.heap.size 1 (-1) ∧ Below w.heap.size w w' ∧ w.heap.size < w'.heap.size := by
  have e0 := eqN
  go_enter Tryz.func8, Tryz.ntmps8
  go_wp2_with (fail)
  refine (lfault_calls 1 (-1) _).mono ?_
  rintro e w1 ⟨rfl, rfl⟩
  go_wp2_with (fail)
  exact bodyPost_ret (results_list (rs := [_, _]) Tryz.results8 (by simp) (.tmp (.tmp .nil))) rfl ⟨rfl, ⟨by simp, by simp, by simp, by simp⟩, (Below.refl _ _).alloc (Nat.le_refl _) _, by simp⟩
set_option maxHeartbeats 8000000 in
theorem atOut_calls {B q p : Nat} {lv : Value} {recs : List BL} {br : Bool} (i : Int) (w : World) (h : LG w B q p lv recs br) (hi : i < 0 ∨ (recs.length : Int) ≤ i) : Calls Tryz.prog 8 #[.pointer (some ⟨q, 0, none⟩), .int .i64 i] w fun e w' => e = .returned (.tuple #[.string ⟨#[]⟩, fV w.heap.size]) ∧ FP w' w.heap.size 2 i ∧ Below w.heap.size w w' ∧ w.heap.size < w'.heap.size := by
  obtain ⟨_, c1, _⟩ := h.cells
  obtain ⟨a, c, rfl, _, _⟩ := own_slice h.2.1
  have e0 := eqP
  clear h
  by_cases h1 : i < 0
  · go_enter Tryz.func8, Tryz.ntmps8
    go_wp2_with (fail)
    refine (lfault_calls 2 i _).mono ?_
    rintro e w1 ⟨rfl, rfl⟩
    go_wp2_with (fail)
    exact bodyPost_ret (results_list (rs := [_, _]) Tryz.results8 (by simp) (.tmp (.tmp .nil))) rfl ⟨rfl, ⟨by simp, by simp, by simp, by simp⟩, (Below.refl _ _).alloc (Nat.le_refl _) _, by simp⟩
  · have h2 : (recs.length : Int) ≤ i := by omega
    go_enter Tryz.func8, Tryz.ntmps8
    go_wp2_with (fail)
    refine (lfault_calls 2 i _).mono ?_
    rintro e w1 ⟨rfl, rfl⟩
    go_wp2_with (fail)
    exact bodyPost_ret (results_list (rs := [_, _]) Tryz.results8 (by simp) (.tmp (.tmp .nil))) rfl ⟨rfl, ⟨by simp, by simp, by simp, by simp⟩, (Below.refl _ _).alloc (Nat.le_refl _) _, by simp⟩
set_option maxHeartbeats 8000000 in
theorem at_calls {B q p : Nat} {lv : Value} {recs : List BL} {br : Bool} (i : Nat) (x : BL) (w : World) (h : LG w B q p lv recs br) (hx : recs[i]? = some x) : Calls Tryz.prog 8 #[.pointer (some ⟨q, 0, none⟩), .int .i64 (i : Int)] w fun e w' => e = .returned (.tuple #[.string (mkB x), .nilIface]) ∧ w = w' := by
  obtain ⟨_, c1, _⟩ := h.cells
  have hi := (List.getElem?_eq_some_iff.1 hx).1
  obtain ⟨a, c, rfl, _, hcell0⟩ := own_slice h.2.1
  obtain ⟨g, rfl, hcell⟩ := hcell0 (by omega)
  have c3 : w.cell? ⟨g, i, none⟩ = some (.string (mkB x)) := hcell i (encS x) (by rw [List.getElem?_map, hx]; rfl)
  have e0 := eqP
  have h0 : (0 : Int) ≤ (i : Int) := by omega
  have h1 : ¬ (i : Int) < 0 := by omega
  have h2 : (i : Int) < (recs.length : Int) := by omega
  have h3 : ¬ (recs.length : Int) ≤ (i : Int) := by omega
  clear h hcell0 hcell hx
  go_enter Tryz.func8, Tryz.ntmps8
  go_wp2_with (fail)
  exact bodyPost_ret (results_list (rs := [_, _]) Tryz.results8 (by simp) (.tmp (.tmp .nil))) rfl ⟨rfl, rfl⟩
end
section
/-- A list of texts in memory of its own, which may be written over. -/
def FR (w : World) (B : Nat) (v : Value) (l : List BL) : Prop := (v = .slice none 0 0 ∧ l = []) ∨ ∃ g cap cur, v = .slice (some ⟨g, 0, none⟩) l.length cap ∧ B ≤ g ∧ w.heap[g]? = some (.cells cur 9 (0, 0)) ∧ l.length ≤ cur.size ∧ ∀ (i : Nat) (x : BL), l[i]? = some x → cur[i]? = some (encS x)
theorem fr_own {w : World} {B n : Nat} {v : Value} {l : List BL} (h : w.ownsRow B 9 1 v n (l.map encS)) : FR w B v l := by
  have hl : l.length = n := by have := h.1; rw [List.length_map, Nat.mul_one] at this; exact this
  rcases h.2 with ⟨rfl, h0⟩ | ⟨g, cap, cur, rfl, hb, hg, hn, _, hcs, ht⟩
  · exact .inl ⟨rfl, List.eq_nil_of_length_eq_zero (by omega)⟩
  · refine .inr ⟨g, cap, cur, by rw [hl], hb, hg, by rw [hcs]; omega, fun i x hx => ?_⟩
    have h1 : (cur.toList.take (n * 1))[i]? = some (encS x) := by rw [ht, List.getElem?_map, hx]; rfl
    rw [List.getElem?_take] at h1
    split at h1
    · simpa using h1
    · cases h1
theorem fr_clip {w : World} {B g n c : Nat} {l : List BL} (h : FR w B (.slice (some ⟨g, 0, none⟩) n c) l) : FR w B (.slice (some ⟨g, 0, none⟩) n n) l := by
  rcases h with ⟨e, _⟩ | ⟨g', cap, cur, e, h1, h2, h3, h4⟩
  · cases e
  · injection e with e1 e2 e3
    injection e1 with e1
    injection e1 with e1 _ _
    subst e1 e2
    exact .inr ⟨g, l.length, cur, rfl, h1, h2, h3, h4⟩
theorem slice_at (g n cap k : Nat) (h1 : k < n) (h2 : n ≤ cap) (W : World) : (Instr.slice 36 (.slice (some ⟨g, 0, none⟩) n cap) (some (.int .i64 (k : Int))) none none).run Tryz.prog W = .ok (.slice (some ⟨g, k, none⟩) (n - k) (cap - k)) W := by
  have hz : ∀ W, (sizeOf 9).run Tryz.prog W = .ok 1 W := fun W => by kernel_rfl
  have h3 : (k : Int) ≤ (n : Int) := by omega
  have h4 : ¬ cap = k := by omega
  have h0 : (0 : Int) ≤ (k : Int) := by omega
  have h5 : k ≤ n := by omega
  simp [Instr.slice, Instr.sliceBounds, Instr.sliceBound, asIntOf, run_underlying Tryz.underlying36, hz, h5, h3, h4, h0, Result.andThen]
  by_cases hk : k = 0
  · simp [hk, Addr.add]
  · simp [hk, Addr.add]
set_option maxHeartbeats 16000000 in
set_option maxRecDepth 100000 in
theorem from_calls {B q p : Nat} {lv : Value} {recs : List BL} {br : Bool} (i : Int) (w : World) (h : LG w B q p lv recs br) : Calls Tryz.prog 13 #[.pointer (some ⟨q, 0, none⟩), .int .i64 i] w fun e w' => ∃ v, e = .returned v ∧ FR w' w.heap.size v (if (recs.length : Int) ≤ i then [] else recs.drop i.toNat) ∧ Below w.heap.size w w' := by
  obtain ⟨_, c1, _⟩ := h.cells
  obtain ⟨a, c, rfl, hnc, hcell0⟩ := own_slice h.2.1
  have hlen := h.2.2
  have e0 := eqP
  by_cases h1 : (recs.length : Int) ≤ i
  · rw [if_pos h1]
    clear h hcell0
    go_enter Tryz.func13, Tryz.ntmps13
    go_wp2_with (fail)
    go_ret
    exact ⟨_, rfl, .inl ⟨rfl, rfl⟩, Below.refl _ _⟩
  · rw [if_neg h1]
    obtain ⟨k, hk⟩ : ∃ k : Nat, i.toNat = k := ⟨_, rfl⟩
    by_cases hz : recs.length = 0
    · have hr : recs = [] := List.eq_nil_of_length_eq_zero hz
      subst hr
      have hneg : i < 0 := by have : (([] : List BL).length : Int) = 0 := rfl; omega
      have hmx : max i 0 = 0 := by omega
      rw [List.drop_nil]
      have hb0 := h.2.1.2
      clear hcell0 hlen
      rcases hb0 with ⟨e1, _⟩ | ⟨g, cap, cur, e1, _, _, hnc2, _⟩
      · injection e1 with e1 e2 e3
        subst e1 e3
        clear h
        go_enter Tryz.func13, Tryz.ntmps13
        go_wp2_with (fail)
        refine (Tryz.slices_Clone_string_nil 0 0 _).mono ?_
        rintro e w1 ⟨rfl, rfl⟩
        go_wp2_with (fail)
        refine (clip_nil _).mono ?_
        rintro e w1 ⟨rfl, rfl⟩
        go_wp2_with (fail)
        go_ret
        exact ⟨_, rfl, .inl ⟨rfl, rfl⟩, Below.refl _ _⟩
      · injection e1 with e1 e2 e3
        subst e1 e3
        clear h
        go_enter Tryz.func13, Tryz.ntmps13
        go_wp2_with (fail)
        refine (Tryz.slices_Clone_string_zero ⟨g, 0, none⟩ c _).mono ?_
        rintro e w1 ⟨v', rfl, ho, hne, hb1⟩
        have HO : Aside0 (FR w1 w.heap.size v' []) := ⟨fr_own (n := 0) (l := []) ho⟩
        have HB1 := Aside0.mk hb1
        obtain ⟨g2, cap2, rfl, hc2⟩ : ∃ g2 cap2, v' = .slice (some ⟨g2, 0, none⟩) 0 cap2 ∧ 0 ≤ cap2 := by
          rcases ho.2 with ⟨e1, _⟩ | ⟨g2, cap2, cur, e1, _, _, e2, _⟩
          · exact absurd e1 hne
          · exact ⟨g2, cap2, e1, e2⟩
        have HC2 := Aside0.mk (clip_calls g2 0 cap2 w1 hc2)
        clear ho hb1 hne
        go_wp2_with (fail)
        refine HC2.out.mono ?_
        rintro e w2 ⟨rfl, rfl⟩
        go_wp2_with (fail)
        go_ret
        exact ⟨_, rfl, fr_clip HO.out, HB1.out⟩
    have hkn : k < recs.length := by omega
    obtain ⟨g, rfl, hcell⟩ := hcell0 (by omega)
    obtain ⟨n, hn⟩ : ∃ n, recs.length = n := ⟨_, rfl⟩
    rw [hk]
    have HCL : Aside0 (∀ W, Below w.heap.size w W → Calls Tryz.prog 48 #[.slice (some ⟨g, k, none⟩) (n - k) (c - k)] W fun e w' => ∃ v', e = .returned v' ∧ w'.ownsRow W.heap.size 9 1 v' (n - k) ((recs.drop k).map encS) ∧ v' ≠ .slice none 0 0 ∧ Below W.heap.size W w') := ⟨fun W hb => by
      refine (Tryz.slices_Clone_string g k (n - k) (c - k) ((recs.drop k).map mkB) W (by rw [List.length_map, List.length_drop]; omega) (by omega) (fun j hj => ?_)).mono ?_
      · rw [List.length_map, List.length_drop] at hj
        have hx : recs[k + j]? = some (recs[k + j]'(by omega)) := List.getElem?_eq_getElem _
        have h3 := pw_cell_below hb (hcell (k + j) (encS (recs[k + j]'(by omega))) (by rw [List.getElem?_map, hx]; rfl))
        rw [h3, List.getD_eq_getElem?_getD, List.getElem?_map, List.getElem?_drop, hx]
        rfl
      · rintro e w' ⟨v', rfl, ho, hne, hb'⟩
        refine ⟨v', rfl, ?_, hne, hb'⟩
        rw [List.take_of_length_le (by rw [List.length_map, List.length_drop]; omega), List.map_map] at ho
        exact ho⟩
    have hsl := slice_at g n c k (by omega) (by omega)
    have hdl : (recs.drop k).length = n - k := by rw [List.length_drop, hn]
    rw [hn] at hlen hnc c1 h1 hkn
    have hR : FR = FR := rfl
    by_cases hneg : i < 0
    · obtain rfl : k = 0 := by omega
      have hmx : max i 0 = 0 := by omega
      simp only [Nat.sub_zero] at HCL hdl hsl
      clear h hcell0 hcell hn hR
      go_enter Tryz.func13, Tryz.ntmps13
      go_wp2_with (fail)
      refine (HCL.out _ (Below.refl _ _)).mono ?_
      rintro e w1 ⟨v', rfl, ho, hne, hb1⟩
      have HO := Aside0.mk (fr_own ho)
      have HB1 := Aside0.mk hb1
      obtain ⟨g2, cap2, rfl, hc2⟩ : ∃ g2 cap2, v' = .slice (some ⟨g2, 0, none⟩) n cap2 ∧ n ≤ cap2 := by
        rcases ho.2 with ⟨e1, _⟩ | ⟨g2, cap2, cur, e1, _, _, e2, _⟩
        · exact absurd e1 hne
        · exact ⟨g2, cap2, e1, e2⟩
      have HC2 := Aside0.mk (clip_calls g2 n cap2 w1 hc2)
      clear ho hb1 hne
      go_wp2_with (fail)
      refine HC2.out.mono ?_
      rintro e w2 ⟨rfl, rfl⟩
      go_wp2_with (fail)
      go_ret
      exact ⟨_, rfl, fr_clip HO.out, HB1.out⟩
    · obtain rfl : i = (k : Int) := by omega
      obtain ⟨m, hm⟩ : ∃ m, n - k = m := ⟨_, rfl⟩
      rw [hm] at HCL hdl hsl
      clear h hcell0 hcell hn hR
      go_enter Tryz.func13, Tryz.ntmps13
      go_wp2_with (fail)
      refine (HCL.out _ (Below.refl _ _)).mono ?_
      rintro e w1 ⟨v', rfl, ho, hne, hb1⟩
      have HO := Aside0.mk (fr_own ho)
      have HB1 := Aside0.mk hb1
      obtain ⟨g2, cap2, rfl, hc2⟩ : ∃ g2 cap2, v' = .slice (some ⟨g2, 0, none⟩) m cap2 ∧ m ≤ cap2 := by
        rcases ho.2 with ⟨e1, _⟩ | ⟨g2, cap2, cur, e1, _, _, e2, _⟩
        · exact absurd e1 hne
        · exact ⟨g2, cap2, e1, e2⟩
      have HC2 := Aside0.mk (clip_calls g2 m cap2 w1 hc2)
      clear ho hb1 hne
      go_wp2_with (fail)
      refine HC2.out.mono ?_
      rintro e w2 ⟨rfl, rfl⟩
      go_wp2_with (fail)
      go_ret
      exact ⟨_, rfl, fr_clip HO.out, HB1.out⟩
set_option maxHeartbeats 8000000 in
theorem fromNil_calls (i : Int) (w : World) : Calls Tryz.prog 13 #[.pointer none, .int .i64 i] w fun e w' => e = .returned (.slice none 0 0) ∧ w = w' := by
  have e0 := eqN
  go_enter Tryz.func13, Tryz.ntmps13
  go_wp2_with (fail)
  go_ret
  exact ⟨rfl, rfl⟩
end
section
theorem own_take {w : World} {B n m cap : Nat} {a : Option Addr} {xs : List Value} (h : w.ownsRow B 9 1 (.slice a n cap) n xs) (hm : m ≤ n) (hm0 : 0 < m) : w.ownsRow B 9 1 (.slice a m cap) m (xs.take m) := by
  obtain ⟨h1, h2⟩ := h
  refine ⟨by rw [List.length_take, h1]; omega, ?_⟩
  rcases h2 with ⟨_, h0⟩ | ⟨g, cap', cur, e, hb, hg, hn, hc, hcs, ht⟩
  · omega
  · injection e with e1 e2 e3
    subst e1 e3
    refine .inr ⟨g, cap, cur, rfl, hb, hg, by omega, hc, hcs, ?_⟩
    rw [← ht, List.take_take]
    congr 1
    omega
theorem slice_to (g n cap m : Nat) (h1 : m ≤ cap) (W : World) : (Instr.slice 36 (.slice (some ⟨g, 0, none⟩) n cap) none (some (.int .i64 (m : Int))) none).run Tryz.prog W = .ok (.slice (some ⟨g, 0, none⟩) m cap) W := by
  have hz : ∀ W, (sizeOf 9).run Tryz.prog W = .ok 1 W := fun W => by kernel_rfl
  have h3 : (m : Int) ≤ (cap : Int) := by omega
  have h0 : (0 : Int) ≤ (m : Int) := by omega
  simp [Instr.slice, Instr.sliceBounds, Instr.sliceBound, asIntOf, run_underlying Tryz.underlying36, hz, h1, h3, h0, Result.andThen]
  try (by_cases hk : cap = 0 <;> simp [hk, Addr.add])
theorem used_at {l : List BL} {j : Nat} {p : BL} (h : l[j]? = some p) : usedF (l.take (j + 1)) = usedF (l.take j) + (12 + p.length) := by
  obtain ⟨hj, e⟩ := List.getElem?_eq_some_iff.1 h
  rw [List.take_succ_eq_append_getElem hj, usedF_append, e, usedF_cons, usedF_nil]
  omega
theorem rsize_calls (p : BL) (w : World) (hp : p.length ≤ 1000000000) : Calls Tryz.prog 89 #[.string (mkB p)] w fun e w' => e = .returned (.int .i64 ((12 + p.length : Nat) : Int)) ∧ w = w' := by
  have h1 : (mkB p).size = p.length := mkB_size p
  have h2 : wrap64 (12 + (p.length : Int)) = ((12 + p.length : Nat) : Int) := by rw [wrap_small _ (by omega) (by omega)]; omega
  go_enter Tryz.func89, Tryz.ntmps89
  go_wp2_with (fail)
  go_ret
  exact ⟨by first | rfl | (simp; done) | (rw [← h2]; rfl), rfl⟩
set_option maxHeartbeats 16000000 in
set_option maxRecDepth 100000 in
theorem lhas_calls (s : ByteArray) (w : World) (hs : s.size ≤ 16777216) : Calls Tryz.prog 52 #[.string s] w fun e w' => ∃ v, e = .returned (.tuple #[v, .int .i64 (usedF (got s) : Int)]) ∧ w'.ownsRow w.heap.size 9 1 v (got s).length ((got s).map encS) ∧ Below w.heap.size w w' := by
  have HA := Aside0.mk (rfall_calls s w hs)
  have hug := used_got s
  have hsm := got_small s
  obtain ⟨R, hR⟩ : ∃ R, recsF (tl s) = R := ⟨_, rfl⟩
  have hG : got s = R.take 64 := by rw [← hR]; rfl
  rw [hR] at HA
  obtain ⟨G, hGG⟩ : ∃ G, got s = G := ⟨_, rfl⟩
  rw [hGG] at hug hsm hG ⊢
  have HSM := Aside0.mk hsm
  clear hR hGG hsm
  go_enter Tryz.func52, Tryz.ntmps52
  go_wp2_with (fail)
  refine HA.out.mono ?_
  rintro e w1 ⟨v, ⟨u, ev, rfl⟩, ho, hb1⟩
  obtain ⟨a, c, rfl, hnc, hcell⟩ := own_slice ho
  have HB1 := Aside0.mk hb1
  have hGl : G.length ≤ 64 := by rw [hG, List.length_take]; exact Nat.min_le_left _ _
  by_cases h : 64 < R.length
  · have h' : (64 : Int) < (R.length : Int) := by omega
    obtain ⟨g0, rfl, _⟩ := hcell (by omega)
    have hl : G.length = 64 := by rw [hG, List.length_take]; omega
    obtain ⟨m, hm⟩ : ∃ m : Nat, m = 64 := ⟨_, rfl⟩
    have HG : Aside0 (m = G.length) := ⟨by omega⟩
    have hoG : w1.ownsRow w.heap.size 9 1 (.slice (some ⟨g0, 0, none⟩) m c) m (G.map encS) := by
      have := own_take (m := 64) ho (by omega) (by decide)
      rw [← List.map_take, ← hG] at this
      rw [hm]
      exact this
    have HOG := Aside0.mk hoG
    obtain ⟨a', c', e', _, hcG⟩ := own_slice hoG
    injection e' with e1 _ e3
    subst e1 e3
    have HCG := Aside0.mk hcG
    have hsl := slice_to g0 R.length c 64 (by omega)
    clear hG hl hcell hoG hcG
    subst hm
    obtain ⟨m, hm⟩ : ∃ m : Nat, (64 : Nat) = m := ⟨_, rfl⟩
    have hm64 : ((64 : Nat) : Int) = (m : Int) := by omega
    rw [hm] at HG HOG HCG
    have hsl : ∀ W, (Instr.slice 36 (.slice (some ⟨g0, 0, none⟩) R.length c) none (some (.int .i64 64)) none).run Tryz.prog W = .ok (.slice (some ⟨g0, 0, none⟩) m c) W := fun W => by rw [← hm]; exact hsl W
    clear hm hm64 h
    have HUG : Aside0 (∀ j p, G[j]? = some p → usedF (G.take (j + 1)) = usedF (G.take j) + (12 + p.length)) := ⟨fun j p h => used_at h⟩
    have HUS : Aside0 (∀ j, usedF (G.take j) ≤ s.size) := ⟨fun j => Nat.le_trans (used_take G j) hug⟩
    clear hb1 ho
    go_wp2_with (fail)
    go_loopw [7, 8] (fun v7 v8 wr => ∃ i : Nat, i ≤ m ∧ v8 = .int .i64 i ∧ v7 = .int .i64 (usedF (G.take i) : Int) ∧ Aside0 (w1 = wr)) (fun _ v8 _ => m - (intOf v8).toNat)
    case atStart => exact ⟨0, Nat.zero_le _, rfl, rfl, ⟨rfl⟩⟩
    case round =>
      obtain ⟨i, hi, rfl, rfl, HW⟩ := hrel
      obtain rfl := HW.out
      have hml : m ≤ 64 := by have h1 := HG.out; omega
      by_cases h1 : i < m
      · have h1' : (i : Int) < (m : Int) := by omega
        have h0' : (0 : Int) ≤ (i : Int) := by omega
        obtain ⟨g, hg, hcell⟩ := HCG.out (by omega)
        first
          | subst hg
          | (injection hg with hg; injection hg with hg _ _; subst hg)
        have hil : i < G.length := by rw [← HG.out]; exact h1
        obtain ⟨p, hp⟩ : ∃ p, G[i]? = some p := ⟨_, List.getElem?_eq_getElem hil⟩
        have c1 := hcell i (encS p) (by rw [List.getElem?_map, hp]; rfl)
        unfold encS at c1
        have HU := Aside0.mk (HUG.out i p hp)
        have hus1 := HUS.out (i + 1)
        rw [HU.out] at hus1
        obtain ⟨u, hu⟩ : ∃ u, usedF (G.take i) = u := ⟨_, rfl⟩
        rw [hu] at HU hus1
        obtain ⟨d, hd⟩ : ∃ d, 12 + p.length = d := ⟨_, rfl⟩
        have HSZ := Aside0.mk (fun W => rsize_calls p W (by omega))
        rw [hd] at HU hus1 HSZ
        have HWR : wrap64 ((u : Int) + (d : Int)) = ((u + d : Nat) : Int) := by rw [wrap_small _ (by omega) (by omega)]; omega
        rw [hu]
        clear hcell hp hil hu hd
        go_wp2_with (fail)
        refine (HSZ.out _).mono ?_
        rintro e w2 ⟨rfl, rfl⟩
        go_wp2_with (fail)
        clear HWR
        exact ⟨⟨i + 1, by omega, by simp, by first | (rw [HU.out]; done) | (rw [HU.out]; simp; done), by first | exact ⟨rfl⟩ | exact ⟨True.intro⟩⟩, by simp [intOf]; omega⟩
      · have h1' : ¬ (i : Int) < (m : Int) := by omega
        have hE : usedF (G.take i) = usedF G := by rw [List.take_of_length_le (by rw [← HG.out]; omega)]
        rw [hE]
        go_wp2_with (fail)
        refine bodyPost_ret (results_list (rs := [_, _]) Tryz.results52 (by simp) (.tmp (.tmp .nil))) rfl ⟨_, rfl, ?_, HB1.out⟩
        rw [← HG.out]
        exact HOG.out
  · have h' : ¬ (64 : Int) < (R.length : Int) := by omega
    have hl : G = R := by rw [hG, List.take_of_length_le (by omega)]
    subst hl
    obtain ⟨m, hm⟩ : ∃ m : Nat, m = G.length := ⟨_, rfl⟩
    have HG := Aside0.mk hm
    rw [← hm] at ho hcell h' hGl hnc ⊢
    have HOG := Aside0.mk ho
    have HCG := Aside0.mk hcell
    clear hG hcell hm h
    have HUG : Aside0 (∀ j p, G[j]? = some p → usedF (G.take (j + 1)) = usedF (G.take j) + (12 + p.length)) := ⟨fun j p h => used_at h⟩
    have HUS : Aside0 (∀ j, usedF (G.take j) ≤ s.size) := ⟨fun j => Nat.le_trans (used_take G j) hug⟩
    clear hb1 ho
    go_wp2_with (fail)
    go_loopw [7, 8] (fun v7 v8 wr => ∃ i : Nat, i ≤ m ∧ v8 = .int .i64 i ∧ v7 = .int .i64 (usedF (G.take i) : Int) ∧ Aside0 (w1 = wr)) (fun _ v8 _ => m - (intOf v8).toNat)
    case atStart => exact ⟨0, Nat.zero_le _, rfl, rfl, ⟨rfl⟩⟩
    case round =>
      obtain ⟨i, hi, rfl, rfl, HW⟩ := hrel
      obtain rfl := HW.out
      have hml : m ≤ 64 := by have h1 := HG.out; omega
      by_cases h1 : i < m
      · have h1' : (i : Int) < (m : Int) := by omega
        have h0' : (0 : Int) ≤ (i : Int) := by omega
        obtain ⟨g, hg, hcell⟩ := HCG.out (by omega)
        first
          | subst hg
          | (injection hg with hg; injection hg with hg _ _; subst hg)
        have hil : i < G.length := by rw [← HG.out]; exact h1
        obtain ⟨p, hp⟩ : ∃ p, G[i]? = some p := ⟨_, List.getElem?_eq_getElem hil⟩
        have c1 := hcell i (encS p) (by rw [List.getElem?_map, hp]; rfl)
        unfold encS at c1
        have HU := Aside0.mk (HUG.out i p hp)
        have hus1 := HUS.out (i + 1)
        rw [HU.out] at hus1
        obtain ⟨u, hu⟩ : ∃ u, usedF (G.take i) = u := ⟨_, rfl⟩
        rw [hu] at HU hus1
        obtain ⟨d, hd⟩ : ∃ d, 12 + p.length = d := ⟨_, rfl⟩
        have HSZ := Aside0.mk (fun W => rsize_calls p W (by omega))
        rw [hd] at HU hus1 HSZ
        have HWR : wrap64 ((u : Int) + (d : Int)) = ((u + d : Nat) : Int) := by rw [wrap_small _ (by omega) (by omega)]; omega
        rw [hu]
        clear hcell hp hil hu hd
        go_wp2_with (fail)
        refine (HSZ.out _).mono ?_
        rintro e w2 ⟨rfl, rfl⟩
        go_wp2_with (fail)
        clear HWR
        exact ⟨⟨i + 1, by omega, by simp, by first | (rw [HU.out]; done) | (rw [HU.out]; simp; done), by first | exact ⟨rfl⟩ | exact ⟨True.intro⟩⟩, by simp [intOf]; omega⟩
      · have h1' : ¬ (i : Int) < (m : Int) := by omega
        have hE : usedF (G.take i) = usedF G := by rw [List.take_of_length_le (by rw [← HG.out]; omega)]
        rw [hE]
        go_wp2_with (fail)
        refine bodyPost_ret (results_list (rs := [_, _]) Tryz.results52 (by simp) (.tmp (.tmp .nil))) rfl ⟨_, rfl, ?_, HB1.out⟩
        rw [← HG.out]
        exact HOG.out
end
section
theorem FP.below {w w1 : World} {e c : Nat} {k : Int} (h : FP w e c k) (hb : Below w.heap.size w w1) : FP w1 e c k :=
  ⟨pw_cell_below hb h.1, pw_cell_below hb h.2.1, pw_cell_below hb h.2.2.1, pw_cell_below hb h.2.2.2⟩
theorem FP.fc {w : World} {e c : Nat} (h : FP w e c (-1)) : FC w e c ⟨#[]⟩ := h
set_option maxHeartbeats 8000000 in
theorem unwrapP_calls (e c : Nat) (k : Int) (w : World) (h : FP w e c k) : Calls Tryz.prog 172 #[.pointer (some ⟨e, 0, none⟩)] w fun ev w' => ev = .returned (.slice (some ⟨w.heap.size, 0, none⟩) 1 1) ∧ w' = w.alloc (.cells #[.iface 68 (.int .i64 (c : Int))] 25) := by
  obtain ⟨h0, h1, h2, h3⟩ := h
  go_enter Tryz.func172, Tryz.ntmps172
  go_wp2_with (fail)
  go_ret
  exact ⟨rfl, rfl⟩
set_option maxHeartbeats 16000000 in
set_option maxRecDepth 100000 in
theorem errorP_calls (e c k : Nat) (w : World) (h : FP w e c (k : Int)) (hc : c < 100) (hk : k < 100000000) (hT : GT w) : Calls Tryz.prog 171 #[.pointer (some ⟨e, 0, none⟩)] w fun ev w' => (∃ s : ByteArray, ev = .returned (.string s) ∧ 0 < s.size) ∧ Below w.heap.size w w' := by
  obtain ⟨h0, h1, h2, h3⟩ := h
  obtain ⟨s1, s2⟩ := numS_size c hc
  generalize hnum : numS c = num at *
  have HE := Aside0.mk (errno_calls c hc)
  rw [hnum] at HE
  have HI := Aside0.mk (itoa_calls k w (by omega) hT)
  obtain ⟨hl, _⟩ := pad8_dec k hk
  obtain ⟨d, hd⟩ : ∃ d, mkB (Lib.decDigits k) = d := ⟨_, rfl⟩
  have hds : d.size ≤ 8 := by rw [← hd, mkB_size]; exact hl
  rw [hd] at HI
  have hkk : ¬ (k : Int) < 0 := by omega
  have hk0 : (0 : Int) ≤ (k : Int) := by omega
  have n1 : ¬ 9223372036854775807 < 4 + d.size := by omega
  have n2 : ¬ 9223372036854775807 < num.size + (4 + d.size) := by omega
  clear hd hl hT hnum
  go_enter Tryz.func171, Tryz.ntmps171
  go_wp2_with (fail)
  refine (HE.out _).mono ?_
  rintro e w1 ⟨rfl, rfl⟩
  go_wp2_with (fail)
  refine HI.out.mono ?_
  rintro e w1 ⟨rfl, hb⟩
  have d3 := pw_cell_below hb h3
  go_wp2_with (fail)
  go_ret
  exact ⟨⟨_, rfl, by rw [ByteArray.size_append]; omega⟩, hb⟩
set_option maxHeartbeats 16000000 in
set_option maxRecDepth 100000 in
theorem is2P_calls (e c : Nat) (k : Int) (w : World) (h : FP w e c k) : Calls Tryz.prog 76 #[.iface 98 (.pointer (some ⟨e, 0, none⟩)), .iface 68 (.int .i64 (c : Int)), .bool true] w fun ev w' => ev = .returned (.bool true) ∧ Below w.heap.size w w' := by
  have HF := Aside0.mk h
  clear h
  have t0 := fun (v v' : Value) (w : World) => run_eql_iface_types (P := Tryz.prog) 98 68 v v' Tryz.underlying25 (by decide) w
  have a1 := noIs90
  have a2 := noUnwrap90
  have a3 := hasUnwraps90
  have m1 := methodUnwrap90
  have n1 := neq_nil72
  go_enter Tryz.func76, Tryz.ntmps76
  go_wp2_with (fail)
  refine wp_loop_rounds 1 ?_
  rw [rounds_succ]
  go_wp2_with (fail)
  refine (unwrapP_calls e c k _ HF.out).mono ?_
  rintro ev w1 ⟨rfl, rfl⟩
  go_wp2_with (fail)
  refine wp_loop_rounds 1 ?_
  rw [rounds_succ]
  go_wp2_with (fail)
  refine (is1_calls c _).mono ?_
  rintro ev w1 ⟨rfl, rfl⟩
  go_wp2_with (fail)
  go_ret
  exact ⟨rfl, (Below.refl _ _).alloc (Nat.le_refl _) _⟩
theorem isP_calls (e c : Nat) (k : Int) (w : World) (h : FP w e c k) : Calls Tryz.prog 36 #[.iface 98 (.pointer (some ⟨e, 0, none⟩)), .iface 68 (.int .i64 (c : Int))] w fun ev w' => ev = .returned (.bool true) ∧ Below w.heap.size w w' :=
  isB_calls e c true w (is2P_calls e c k w h)
set_option maxHeartbeats 16000000 in
set_option maxRecDepth 100000 in
theorem toldP_calls (g c k : Nat) (w : World) (h : FP w g c (k : Int)) (hG : GE w) (hc : c < 100) (hk : k < 100000000) (hT : GT w) :
    Calls Tryz.prog 45 #[.iface 98 (.pointer (some ⟨g, 0, none⟩))] w fun ev w' => ev = .returned (.tuple #[.int .i64 c, .string ⟨#[]⟩, .int .i64 (k : Int)]) ∧ Below w.heap.size w w' := by
  have HF := Aside0.mk h
  have HG := Aside0.mk hG
  have HTT := Aside0.mk hT
  clear h hG hT
  have n1 : ∀ (v : Value) (w : World), (binOp .eql 25 (.iface 98 v) .nilIface).run Tryz.prog w = .ok (.bool false) w := fun v w => by kernel_rfl
  have m1 := methodError90
  go_enter Tryz.func45, Tryz.ntmps45
  go_wp2_with (fail)
  refine (as_calls ⟨g, 0, none⟩ ⟨w.heap.size, 0, none⟩ (.pointer none) _ (HG.out.below ((Below.refl _ _).alloc (Nat.le_refl _) _)) (by simp) (by simp)).mono ?_
  rintro ev w1 ⟨rfl, w0, rfl, hb0⟩
  have HB0 := Aside0.mk (below_step (w := w) ((Below.refl _ _).alloc (Nat.le_refl _) _) hb0)
  have hsz := hb0.size
  have HB1 : Aside0 (Below w.heap.size w (w0.setCell ⟨w.heap.size, 0, none⟩ (.pointer (some ⟨g, 0, none⟩)))) := ⟨HB0.out.setCell (Nat.le_refl _) _⟩
  have hp : (w0.setCell ⟨w.heap.size, 0, none⟩ (.pointer (some ⟨g, 0, none⟩))).cell? ⟨w.heap.size, 0, none⟩ = some (.pointer (some ⟨g, 0, none⟩)) := World.cell?_setCell_same _ _ _ (pw_cell_below hb0 (show _ = some (Value.pointer none) by simp))
  have HF1 := Aside0.mk (HF.out.below HB1.out)
  obtain ⟨c0, c1, c2, c3⟩ := HF1.out
  clear hb0
  generalize w0.setCell ⟨w.heap.size, 0, none⟩ (.pointer (some ⟨g, 0, none⟩)) = w1 at *
  go_wp2_with (fail)
  refine (isP_calls g c _ _ HF1.out).mono ?_
  rintro ev w2 ⟨rfl, hb2⟩
  have HF2 := Aside0.mk (HF1.out.below hb2)
  have HB2 := Aside0.mk (below_step (w := w) HB1.out hb2)
  have hp2 := pw_cell_below hb2 hp
  obtain ⟨d0, d1, d2, d3⟩ := HF2.out
  clear hb2 c0 c1 c2 c3 hp
  go_wp2_with (fail)
  refine (errorP_calls g c k _ HF2.out hc hk (HTT.out.below HB2.out)).mono ?_
  rintro ev w3 ⟨⟨s, rfl, hs⟩, hb3⟩
  have hse : (s.toList == []) = false := by
    rw [ByteArray.toList_eq]
    simp only [beq_eq_false_iff_ne]
    intro h
    have : s.size = 0 := by
      have e := congrArg List.length h
      rw [Array.length_toList] at e
      exact e
    omega
  have HB3 := Aside0.mk (below_step (w := w) HB2.out hb3)
  have hp3 := pw_cell_below hb3 hp2
  obtain ⟨d0, d1, d2, d3⟩ := HF2.out.below hb3
  clear hb3
  go_wp2_with (fail)
  go_quiet (fail)
  go_wp2_with (fail)
  exact bodyPost_ret (results_list (rs := [_, _, _]) Tryz.results45 (by simp) (.tmp (.tmp (.tmp .nil)))) rfl ⟨rfl, pw_below_drewN HB3.out _⟩
set_option maxHeartbeats 16000000 in
set_option maxRecDepth 100000 in
theorem isP_ok (g c k : Nat) (w : World) (h : FP w g c (k : Int)) (hG : GE w) (h0 : 0 < c) (hc : c < 100) (hk : k < 100000000) (hT : GT w) :
    Calls Tryz.prog 10 #[.iface 98 (.pointer (some ⟨g, 0, none⟩)), .int .i64 c, .string ⟨#[]⟩, .int .i64 (k : Int)] w fun ev w' => ev = .returned (.bool true) ∧ Below w.heap.size w w' := by
  have HT := Aside0.mk (toldP_calls g c k w h hG hc hk hT)
  clear h hG hT
  have hc0 : ¬ (c : Int) = 0 := by omega
  go_enter Tryz.func10, Tryz.ntmps10
  go_wp2_with (fail)
  refine HT.out.mono ?_
  rintro ev w1 ⟨rfl, hb⟩
  go_wp2_with (fail)
  go_ret
  exact ⟨by simp, hb⟩
/-- The law's test of an error. -/
theorem isEr_calls (c lo : Nat) (v : Value) (name : ByteArray) (w : World) (h : Er w lo v c name) (hG : GE w) (hc : c < 100) (hn : name.size ≤ 140737488351232) : Calls Tryz.prog 10 #[v, .int .i64 (c : Int), .string name, .int .i64 (-1)] w fun ev w' => ev = .returned (.bool true) ∧ Below w.heap.size w w' := by
  rcases h with ⟨h1, rfl⟩ | ⟨h1, e, rfl, _, _, hF⟩
  · subst h1
    refine (isNo_calls w name (-1)).mono ?_
    rintro ev w' ⟨rfl, rfl⟩
    exact ⟨rfl, Below.refl _ _⟩
  · exact is_ok e c name w hF hG h1 hc hn
end
end Go.Proofs.YtmceikfbgmcmaaaGreatDoor.D

/- The disk in memory: what a call on it leaves; able; New. -/
import Derived.Test.YtcbgeakabchenaaDoorMapB
import Derived.Carry
namespace Go.Proofs.YtcbgeakabchenaaDoor.D
open Go.RowKit Go.Extern.Stop Go.Stop Go.Extern Go.Proofs.YtcbgeakabchenaaDoorW.PrintWords Go.Proofs.YtcbgeakabchenaaDoorW.PrintLast Go.Proofs.YtcbgeakabchenaaDoorW.PrintMore
set_option linter.unusedVariables false
set_option linter.unusedSimpArgs false
structure St where
  L : FS
  cut : Int
  cnt : Int
  dead : Bool
/-- What files may be. -/
def Okf (L : FS) : Prop := Ris L ∧ L.length ≤ 65536 ∧ ∀ p ∈ L, p.2.size ≤ 16777216
abbrev cellsD (b : Nat) (s : St) : Array Value := #[.map (some b), .int .i64 s.cut, .int .i64 s.cnt, .bool s.dead]
/-- A disk at p, whose files lie in the map b. -/
def DK (w : World) (p b : Nat) (s : St) : Prop := w.heap[p]? = some (.cells (cellsD b s) 40 (0, 0)) ∧ MapIs w b s.L ∧ Okf s.L
/-- What a call on the disk at p leaves as it was. -/
structure Kp (p b : Nat) (w w' : World) : Prop where
  os : w'.os = w.os
  tape : w'.tape = w.tape
  output : w'.output = w.output
  size : w.heap.size ≤ w'.heap.size
  block : ∀ k, k < w.heap.size → k ≠ p → k ≠ b → w'.heap[k]? = w.heap[k]?
theorem Kp.refl (p b : Nat) (w : World) : Kp p b w w := ⟨rfl, rfl, rfl, Nat.le_refl _, fun _ _ _ _ => rfl⟩
theorem Kp.trans {p b : Nat} {u v w : World} (h : Kp p b u v) (k : Kp p b v w) : Kp p b u w :=
  ⟨k.os.trans h.os, k.tape.trans h.tape, k.output.trans h.output, Nat.le_trans h.size k.size, fun i hi h1 h2 => (k.block i (Nat.lt_of_lt_of_le hi h.size) h1 h2).trans (h.block i hi h1 h2)⟩
theorem Kp.of {p b : Nat} {u v : World} (h : Below u.heap.size u v) : Kp p b u v := ⟨h.os, h.tape, h.output, h.size, fun i hi _ _ => h.block i hi⟩
theorem Kp.drew {p b : Nat} {u v : World} (h : Kp p b u v) (n : Nat) : Kp p b u (v.drewN n) := ⟨h.os, h.tape, h.output, h.size, h.block⟩
theorem Kp.below {p b B : Nat} {u v : World} (h : Kp p b u v) (h1 : B ≤ p) (h2 : B ≤ b) (h3 : B ≤ u.heap.size) : Below B u v :=
  ⟨h.os, h.tape, h.output, h.size, fun k hk => h.block k (by omega) (by omega) (by omega)⟩
theorem Kp.set {p b i : Nat} {u v : World} (h : Kp p b u v) (x : Value) : Kp p b u (v.setCell ⟨p, i, none⟩ x) :=
  ⟨h.os, h.tape, h.output, by simpa using h.size, fun k hk h1 h2 => (Below.heap_setCell v ⟨p, i, none⟩ x k h1).trans (h.block k hk h1 h2)⟩
theorem Kp.turned {p b : Nat} {u v v' : World} (h : Kp p b u v) (ht : v.mapTurned v' b) : Kp p b u v' := by
  have hg := ht.grown
  exact ⟨hg.os.trans h.os, hg.tape.trans h.tape, hg.output.trans h.output, Nat.le_trans h.size hg.size, fun k hk h1 h2 => (hg.block k (Nat.lt_of_lt_of_le hk h.size) (fun e => by injection e with e; exact h2 e)).trans (h.block k hk h1 h2)⟩
theorem DK.lt {w : World} {p b : Nat} {s : St} (h : DK w p b s) : p < w.heap.size := (Array.getElem?_eq_some_iff.1 h.1).1
theorem DK.ltb {w : World} {p b : Nat} {s : St} (h : DK w p b s) : b < w.heap.size := h.2.1.lt
theorem DK.ne {w : World} {p b : Nat} {s : St} (h : DK w p b s) : p ≠ b := by
  rintro rfl
  obtain ⟨M, ⟨es, clock, h1, _⟩, _⟩ := h.2.1
  rw [h.1] at h1
  cases h1
theorem DK.c {w : World} {p b : Nat} {s : St} (h : DK w p b s) : w.cell? ⟨p, 0, none⟩ = some (.map (some b)) ∧ w.cell? ⟨p, 1, none⟩ = some (.int .i64 s.cut) ∧ w.cell? ⟨p, 2, none⟩ = some (.int .i64 s.cnt) ∧ w.cell? ⟨p, 3, none⟩ = some (.bool s.dead) ∧ ∀ o, w.frozen? ⟨p, o, none⟩ = false := by
  obtain ⟨h1, _⟩ := h
  simp [World.cell?, World.frozen?, h1]
theorem DK.below {w w1 : World} {p b : Nat} {s : St} (h : DK w p b s) (hb : Below w.heap.size w w1) : DK w1 p b s :=
  ⟨(hb.block p h.lt).trans h.1, h.2.1.kept (hb.block b h.ltb), h.2.2⟩
theorem DK.kept {w w1 : World} {p b p' b' : Nat} {s : St} (h : DK w p b s) (hk : Kp p' b' w w1) (h1 : p ≠ p') (h2 : p ≠ b') (h3 : b ≠ p') (h4 : b ≠ b') : DK w1 p b s :=
  ⟨(hk.block p h.lt h1 h2).trans h.1, h.2.1.kept (hk.block b h.ltb h3 h4), h.2.2⟩
theorem heap_set {w : World} {p i : Nat} {cs : Array Value} {t : TypeId} {fr : Nat × Nat} (h : w.heap[p]? = some (.cells cs t fr)) (v : Value) : (w.setCell ⟨p, i, none⟩ v).heap[p]? = some (.cells (cs.setIfInBounds i v) t fr) := by
  simp [World.setCell, Array.getElem?_modify, h]
theorem DK.setDead {w : World} {p b : Nat} {s : St} (h : DK w p b s) (d : Bool) : DK (w.setCell ⟨p, 3, none⟩ (.bool d)) p b { s with dead := d } :=
  ⟨by rw [heap_set h.1]; rfl, h.2.1.kept (Below.heap_setCell w ⟨p, 3, none⟩ _ b (fun e => h.ne e.symm)), h.2.2⟩
theorem DK.setCnt {w : World} {p b : Nat} {s : St} (h : DK w p b s) (n : Int) : DK (w.setCell ⟨p, 2, none⟩ (.int .i64 n)) p b { s with cnt := n } :=
  ⟨by rw [heap_set h.1]; rfl, h.2.1.kept (Below.heap_setCell w ⟨p, 2, none⟩ _ b (fun e => h.ne e.symm)), h.2.2⟩
theorem DK.setCut {w : World} {p b : Nat} {s : St} (h : DK w p b s) (n : Int) : DK (w.setCell ⟨p, 1, none⟩ (.int .i64 n)) p b { s with cut := n } :=
  ⟨by rw [heap_set h.1]; rfl, h.2.1.kept (Below.heap_setCell w ⟨p, 1, none⟩ _ b (fun e => h.ne e.symm)), h.2.2⟩
theorem DK.drew {w : World} {p b : Nat} {s : St} (h : DK w p b s) (n : Nat) : DK (w.drewN n) p b s := h
theorem DK.turned {w w' : World} {p b : Nat} {s : St} {L : FS} (h : DK w p b s) (ht : w.mapTurned w' b) (hM : MapIs w' b L) (hL : Okf L) : DK w' p b { s with L := L } :=
  ⟨(ht.grown.block p h.lt (fun e => by injection e with e; exact h.ne e)).trans h.1, hM, hL⟩
theorem lk_size {L : FS} (h : ∀ p ∈ L, p.2.size ≤ 16777216) (k : ByteArray) : (lkD L k).size ≤ 16777216 := by
  unfold lkD
  induction L with
  | nil => exact Nat.zero_le _
  | cons p r ih =>
    obtain ⟨a, x⟩ := p
    rw [lk]
    split
    · exact h (a, x) (by simp)
    · exact ih (fun q hq => h q (List.mem_cons_of_mem _ hq))
theorem nil23 (w : World) : (binOp .eql 25 (.pointer none) (.pointer none)).run Tryd.prog w = .ok (.bool true) w := by kernel_rfl
def ableC (s : St) (name : ByteArray) : Nat := if name.size < 1 ∨ 128 < name.size then 2 else if s.dead then 5 else 0
set_option maxHeartbeats 8000000 in
theorem able_nil (name : ByteArray) (w : World) : Calls Tryd.prog 15 #[.pointer none, .string name] w fun e w' => e = .returned (.int .i64 1) ∧ w' = w := by
  have h0 := nil23
  go_enter Tryd.func15, Tryd.ntmps15
  go_wp2
  go_ret
  exact ⟨rfl, rfl⟩
set_option maxHeartbeats 8000000 in
theorem able_calls (p b : Nat) (s : St) (name : ByteArray) (w : World) (h : DK w p b s) : Calls Tryd.prog 15 #[.pointer (some ⟨p, 0, none⟩), .string name] w fun e w' => e = .returned (.int .i64 (ableC s name)) ∧ w' = w := by
  obtain ⟨c0, c1, c2, c3, cf⟩ := h.c
  unfold ableC
  by_cases h1 : name.size < 1
  · rw [if_pos (.inl h1)]
    have h1' : (name.size : Int) < 1 := by omega
    go_enter Tryd.func15, Tryd.ntmps15
    go_wp2
    go_ret
    exact ⟨rfl, rfl⟩
  · have h1' : ¬ (name.size : Int) < 1 := by omega
    by_cases h2 : 128 < name.size
    · rw [if_pos (.inr h2)]
      have h2' : (128 : Int) < (name.size : Int) := by omega
      go_enter Tryd.func15, Tryd.ntmps15
      go_wp2
      go_ret
      exact ⟨rfl, rfl⟩
    · have h2' : ¬ (128 : Int) < (name.size : Int) := by omega
      rw [if_neg (by omega)]
      cases hd : s.dead
      · rw [hd] at c3
        go_enter Tryd.func15, Tryd.ntmps15
        go_wp2
        go_ret
        exact ⟨rfl, rfl⟩
      · rw [hd] at c3
        go_enter Tryd.func15, Tryd.ntmps15
        go_wp2
        go_ret
        exact ⟨rfl, rfl⟩
set_option maxHeartbeats 8000000 in
theorem new_calls (cut : Int) (w : World) : Calls Tryd.prog 6 #[.int .i64 cut] w fun e w' => ∃ p b, e = .returned (.pointer (some ⟨p, 0, none⟩)) ∧ w.heap.size ≤ p ∧ w.heap.size ≤ b ∧ DK w' p b ⟨[], cut, 0, false⟩ ∧ Below w.heap.size w w' := by
  have hmk := fun w : World => run_makeMap (P := Tryd.prog) 38 w
  go_enter Tryd.func6, Tryd.ntmps6
  go_wp2
  go_ret
  refine ⟨w.heap.size + 1, w.heap.size, rfl, by omega, by omega, ⟨?_, ?_, ?_⟩, ((Below.refl _ _).alloc (Nat.le_refl _) _).alloc (by simp) _⟩
  · have e := (MapKept.heap_alloc (w.alloc (.map #[] 0)) (.cells (cellsD w.heap.size ⟨[], cut, 0, false⟩) 40 (0, 0))).1
    rw [show (w.alloc (.map #[] 0)).heap.size = w.heap.size + 1 from by simp] at e
    exact e
  · exact (mapIs_new w).kept (Below.heap_alloc _ _ _ (by simp))
  · exact ⟨List.Pairwise.nil, Nat.zero_le _, fun p hp => by cases hp⟩
end Go.Proofs.YtcbgeakabchenaaDoor.D

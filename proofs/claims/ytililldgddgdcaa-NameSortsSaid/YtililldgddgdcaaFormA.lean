/- The walk of name.form (a range over a string into a strings.Builder): it returns what 'name_form.f' says, for a separator's text of at most one byte. -/
import Derived.Test.YtililldgddgdcaaPAx0
import Derived.Test.YtililldgddgdcaaPAx1
import Derived.Test.YtililldgddgdcaaShelf
import Derived.BigCall
namespace Go.Proofs.Ytililldgddgdcaa.PA
open Go.RowKit Go.Proofs.YtililldgddgdcaaW.PrintWords Go.Proofs.YtililldgddgdcaaW.PrintLast Go.Proofs.YtililldgddgdcaaW.PrintMore
attribute [local go_sem] max2_int min2_int max_two min_two max_three min_three max_four min_four   -- for this text's walks alone
set_option linter.unusedVariables false
set_option linter.unusedSimpArgs false

/-- What a byte of a raw name is: 1 a letter or a digit, 2 a separator, 0 none. -/
def wk (a : Int) : Int := if (65 ≤ a ∧ a ≤ 90) ∨ (97 ≤ a ∧ a ≤ 122) ∨ (48 ≤ a ∧ a ≤ 57) then 1 else if a = 45 ∨ a = 95 ∨ a = 46 then 2 else 0
def wl (a : Int) : Int := if 65 ≤ a ∧ a ≤ 90 then a + 32 else a

theorem what_eq (a : Int) (h0 : 0 ≤ a) : name_what.f 3 a = some (wk a, wl a) := by
  unfold name_what.f wk wl
  simp only [name_what.j0, name_what.j1, name_what.j2, decide_eq_true_eq, ge_iff_le]
  rcases (show a < 45 ∨ a = 45 ∨ a = 46 ∨ a = 47 ∨ (48 ≤ a ∧ a ≤ 57) ∨ (58 ≤ a ∧ a ≤ 64) ∨ (65 ≤ a ∧ a ≤ 90) ∨ (91 ≤ a ∧ a ≤ 94) ∨ a = 95 ∨ a = 96 ∨ (97 ≤ a ∧ a ≤ 122) ∨ 123 ≤ a from by omega) with c | c | c | c | c | c | c | c | c | c | c | c
  case inr.inr.inr.inr.inr.inr.inl =>
    have hw : wrap32 (a + 32) = a + 32 := by unfold wrap32; omega
    rw [hw]
    repeat (first | rw [if_pos (by omega)] | rw [if_neg (by omega)] | (rw [if_neg Bool.false_ne_true]))
  all_goals repeat (first | rw [if_pos (by omega)] | rw [if_neg (by omega)] | (rw [if_neg Bool.false_ne_true]))

/-- The form of the rest of a raw name, behind what was written and what came last. -/
def fgo (by_ : List UInt8) : List UInt8 → List UInt8 → Int → Option (List UInt8 × Int)
  | [], acc, last => some (acc, last)
  | c :: r, acc, last =>
    if wk c.toNat = 1 then fgo by_ r ((if last = 2 ∧ acc ≠ [] then acc ++ by_ else acc) ++ [UInt8.ofNat (wl c.toNat).toNat]) 1
    else if wk c.toNat = 2 ∧ acc ≠ [] then fgo by_ r acc 2
    else none

def name_form.f (a0 a1 : ByteArray) : Option (ByteArray × Bool) :=
  if a1.size ≤ 1 then
    if a0.size < 1 ∨ 64 < a0.size then some (⟨#[]⟩, false)
    else match fgo a1.data.toList a0.data.toList [] 2 with
      | none => some (⟨#[]⟩, false)
      | some (acc, last) => some (⟨acc.toArray⟩, last == 1)
  else none

theorem size_len (s : ByteArray) : s.data.toList.length = s.size := by rw [Array.length_toList]; rfl
theorem drop_at (s : ByteArray) (i : Nat) (h : i < s.size) : s.data.toList.drop i = s[i] :: s.data.toList.drop (i + 1) := by
  rw [List.drop_eq_getElem_cons (by rw [size_len]; exact h)]; rfl

theorem what_is (a k : Int) (h0 : 0 ≤ a) (h : wk a = k) : name_what.f 3 a = some (k, wl a) := by rw [← h]; exact what_eq a h0
theorem dn {B : Nat} {a w : World} (h : Below B a w) (m : Nat) : Below B a (w.drewN m) := h.trans ⟨rfl, rfl, rfl, Nat.le_refl _, fun _ _ => rfl⟩
theorem meas {W W' : World} {k p p' n : Nat} {s : ByteArray} (h : W.heap[k]? = some (.stringIter s p)) (h' : W'.heap[k]? = some (.stringIter s p')) (hp : p < n) (hq : p < p') : n - W'.iterPos k < n - W.iterPos k := by
  have e1 : W.iterPos k = p := by simp only [World.iterPos, h]
  have e2 : W'.iterPos k = p' := by simp only [World.iterPos, h']
  rw [e1, e2]; omega
theorem cells_low (c : UInt8) (h : c.toNat < 128) : Lib.runeCells (wl c.toNat) = Lib.byteCells [UInt8.ofNat (wl c.toNat).toNat] := by
  have h1 : 0 ≤ wl c.toNat ∧ wl c.toNat ≤ 127 := by unfold wl; split <;> omega
  rw [Lib.runeCells, Lib.encodeRuneZ_one h1.1 h1.2]
  generalize wl c.toNat = x at *
  have h2 : x.toNat < 256 := by omega
  simp only [List.map_cons, List.map_nil, Lib.byteCells, UInt8.toNat_ofNat', Nat.reducePow, Nat.mod_eq_of_lt h2]
  congr 2; omega
theorem form_none {o : Option (List UInt8 × Int)} {r1 : ByteArray} {r2 : Bool} (h : (match o with
      | none => some ((⟨#[]⟩ : ByteArray), false)
      | some (acc, last) => some (⟨acc.toArray⟩, last == 1)) = some (r1, r2)) (e : o = none) : r1 = ⟨#[]⟩ ∧ r2 = false := by
  subst e; simp only [Option.some.injEq, Prod.mk.injEq] at h; exact ⟨h.1.symm, h.2.symm⟩
theorem form_some {o : Option (List UInt8 × Int)} {r1 : ByteArray} {r2 : Bool} (h : (match o with
      | none => some ((⟨#[]⟩ : ByteArray), false)
      | some (acc, last) => some (⟨acc.toArray⟩, last == 1)) = some (r1, r2)) {acc : List UInt8} {last : Int} (e : o = some (acc, last)) : r1 = ⟨acc.toArray⟩ ∧ r2 = (last == 1) := by
  subst e; simp only [Option.some.injEq, Prod.mk.injEq] at h; exact ⟨h.1.symm, h.2.symm⟩
theorem low_range (a : Int) (h0 : 0 ≤ a) (h1 : a < 128) : 0 ≤ wl a ∧ wl a < 128 := by unfold wl; split <;> omega

theorem fgo_letter (by_ r acc : List UInt8) (last : Int) (c : UInt8) (h : wk c.toNat = 1) : fgo by_ (c :: r) acc last = fgo by_ r ((if last = 2 ∧ acc ≠ [] then acc ++ by_ else acc) ++ [UInt8.ofNat (wl c.toNat).toNat]) 1 := by
  rw [fgo, if_pos h]
theorem fgo_sep (by_ r acc : List UInt8) (last : Int) (c : UInt8) (h : wk c.toNat = 2) (ha : acc ≠ []) : fgo by_ (c :: r) acc last = fgo by_ r acc 2 := by
  have h1 : ¬ wk c.toNat = 1 := by rw [h]; decide
  rw [fgo, if_neg h1, if_pos ⟨h, ha⟩]
theorem fgo_sep0 (by_ r : List UInt8) (last : Int) (c : UInt8) (h : wk c.toNat = 2) : fgo by_ (c :: r) [] last = none := by
  have h1 : ¬ wk c.toNat = 1 := by rw [h]; decide
  rw [fgo, if_neg h1, if_neg (fun hh => hh.2 rfl)]
theorem fgo_none (by_ r acc : List UInt8) (last : Int) (c : UInt8) (h : wk c.toNat = 0) : fgo by_ (c :: r) acc last = none := by
  have h1 : ¬ wk c.toNat = 1 := by rw [h]; decide
  have h2 : ¬ wk c.toNat = 2 := by rw [h]; decide
  rw [fgo, if_neg h1, if_neg (fun hh => h2 hh.1)]
theorem wk_cases (a : Int) : wk a = 0 ∨ wk a = 1 ∨ wk a = 2 := by
  unfold wk
  split
  · exact .inr (.inl rfl)
  · split
    · exact .inr (.inr rfl)
    · exact .inl rfl
theorem wk_high (a : Int) (h : 128 ≤ a) : wk a = 0 := by unfold wk; rw [if_neg (by omega), if_neg (by omega)]

set_option maxHeartbeats 4000000 in
set_option maxRecDepth 100000 in
theorem name_form.calls (a0 a1 : ByteArray) (r1 : ByteArray) (r2 : Bool) (w : World) (h : name_form.f a0 a1 = some (r1, r2)) :
    Calls Try.prog 24 #[.string a0, .string a1] w fun e w' => e = .returned (.tuple #[.string r1, .bool r2]) ∧ Below w.heap.size w w' := by
  by_cases h1 : a1.size ≤ 1
  case neg => rw [name_form.f, if_neg h1] at h; cases h
  rw [name_form.f, if_pos h1] at h
  by_cases h0 : a0.size < 1 ∨ 64 < a0.size
  · rw [if_pos h0] at h
    simp only [Option.some.injEq, Prod.mk.injEq] at h
    obtain ⟨rfl, rfl⟩ := h
    rcases h0 with h0 | h0
    · go_enter Try.func24, Try.ntmps24
      go_wp2
      all_goals (go_ret2; exact ⟨rfl, Below.refl _ _⟩)
    · have h2 : 1 ≤ a0.size := by omega
      go_enter Try.func24, Try.ntmps24
      go_wp2
      all_goals (go_ret2; exact ⟨rfl, Below.refl _ _⟩)
  · rw [if_neg h0] at h
    have HF := Aside0.mk h
    have hs1 : 1 ≤ a0.size := by omega
    have hs2 : a0.size ≤ 64 := by omega
    clear h h0
    go_enter Try.func24, Try.ntmps24
    go_wp2
    go_loopw [7] (fun v7 wr => ∃ (pos : Nat) (acc : List UInt8) (last : Int), v7 = .int .i64 last ∧ Aside0 (Lib.IsBuilderF 51 5 w.heap.size w.heap.size (Lib.byteCells acc) wr) ∧ Aside0 (wr.heap[w.heap.size + 1]? = some (.stringIter a0 pos)) ∧ Aside0 (Below w.heap.size w wr) ∧ Aside0 (fgo a1.data.toList (a0.data.toList.drop pos) acc last = fgo a1.data.toList a0.data.toList [] 2) ∧ Aside0 (pos ≤ a0.size) ∧ Aside0 (acc.length ≤ 2 * pos)) (fun _ wr => a0.size - wr.iterPos (w.heap.size + 1))
    case atStart =>
      refine ⟨0, [], 2, rfl, ⟨(Lib.IsBuilderF.of (Lib.fresh_isBuilder 51 5 w)).alloc _⟩, ⟨?_⟩, ⟨((Below.refl _ w).alloc (Nat.le_refl _) _).alloc (by simp) _⟩, ⟨rfl⟩, ⟨by omega⟩, ⟨by simp⟩⟩
      have := World.iter_heap (w.alloc (.cells #[.pointer none, .slice none 0 0] 51)) a0 0
      simpa using this
    case round =>
      obtain ⟨pos, acc, last, rfl, HI, HIT, HB, HG, HP, HL⟩ := hrel
      have hit := HIT.out
      have hI := HI.out
      have hbw := HB.out
      have hsz : w.heap.size + 1 < wr.heap.size := (Array.getElem?_eq_some_iff.1 hit).1
      by_cases hp : pos < a0.size
      · have hnx : ∀ ty, (Instr.next (.pointer (some ⟨w.heap.size + 1, 0, none⟩)) true ty).run Try.prog wr = _ := fun ty => Lib.run_next_any_at wr (w.heap.size + 1) a0 pos ty hit hp
        have hI2 := hI.iterAt hit (pos + (Utf8.decode a0 pos).2)
        have hit2 := Lib.iterAt_heap wr (w.heap.size + 1) a0 pos (pos + (Utf8.decode a0 pos).2) hit
        have hbw2 := Lib.below_iterAt hbw (k := w.heap.size + 1) (by omega) a0 (pos + (Utf8.decode a0 pos).2)
        have hsz2 : w.heap.size ≤ (wr.iterAt (w.heap.size + 1) a0 (pos + (Utf8.decode a0 pos).2)).heap.size := by rw [Lib.iterAt_size]; omega
        have HS := Aside0.mk (drop_at a0 pos hp)
        have hL := HL.out
        by_cases ha : (a0[pos]'hp).toNat < 128
        · have hdec := decode_ascii a0 pos hp ha
          rw [hdec] at hnx hI2 hit2 hbw2 hsz2
          generalize hc : (a0[pos]'hp) = c at *
          have hcr : (c.toNat : Int) < 128 := by omega
          have HG2 := HG.out
          rw [HS.out] at HG2
          have HE := Aside0.mk HG2
          have HC := Aside0.mk (cells_low c ha)
          clear HG2 hc hdec
          have HI2 := Aside0.mk hI2
          have HIT2 := Aside0.mk hit2
          have HB2 := Aside0.mk hbw2
          clear hit hI hbw hI2 hit2 hbw2
          rcases wk_cases c.toNat with hk | hk | hk
          · have HK := Aside0.mk hk
            clear hk
            go_wp2_with (go_at_call 26; refine (name_what.calls 3 c.toNat 0 (wl c.toNat) _ (what_is _ _ (by omega) HK.out)).mono ?_; rintro e W1 ⟨rfl, ⟨m, rfl⟩⟩)
            have e1 := form_none HF.out (HE.out.symm.trans (fgo_none _ _ _ _ _ HK.out))
            obtain ⟨rfl, rfl⟩ := e1
            go_ret2
            exact ⟨rfl, dn HB2.out _⟩
          · have HK := Aside0.mk hk
            clear hk
            have hwl := low_range c.toNat (by omega) (by omega)
            have HSZ2 := Aside0.mk hsz2
            clear hsz2
            by_cases hl : last = 2 ∧ acc ≠ []
            · obtain ⟨rfl, hacc⟩ := hl
              have HA := Aside0.mk hacc
              have hal : 0 < (Lib.byteCells acc).length := by rw [Lib.byteCells_length]; exact List.length_pos_iff.2 hacc
              have HE3 := HE.out
              rw [fgo_letter _ _ _ _ _ HK.out, if_pos ⟨rfl, hacc⟩] at HE3
              have HE3 := Aside0.mk HE3
              have hal1 : a1.data.toList.length = a1.size := size_len a1
              have HAL : (acc ++ a1.data.toList).length ≤ 2 * pos + 1 := by rw [List.length_append]; omega
              clear hacc hal1
              go_wp2_with (first | (go_at_call 26; refine (name_what.calls 3 c.toNat 1 (wl c.toNat) _ (what_is _ _ (by omega) HK.out)).mono ?_; rintro e W1 ⟨rfl, ⟨m, rfl⟩⟩) | (go_at_call 34; refine (Try.Builder_Len_f w.heap.size w.heap.size _ _ (by exact HI2.out)).mono ?_; rintro e W2 ⟨rfl, rfl⟩) | (go_at_call 35; refine (Try.Builder_WriteString_k w.heap.size w.heap.size (Lib.byteCells acc) a1 _ (by exact HI2.out) (by rw [Lib.byteCells_length]; omega) (by exact HSZ2.out)).mono ?_; rintro e W3 ⟨rfl, h3, b3, k3⟩) | (go_at_call 36; refine (Try.Builder_WriteRune_k w.heap.size w.heap.size (Lib.byteCells (acc ++ a1.data.toList)) (wl c.toNat) (by omega) (by omega) _ (by rw [Lib.byteCells_append]; exact Or.inr h3) (by rw [Lib.byteCells_length]; omega) (Nat.le_trans HSZ2.out b3.size)).mono ?_; rintro e W4 ⟨rfl, h4, b4, k4⟩))
              go_roundw
              case rel =>
                have hc := HC.out
                refine ⟨pos + 1, (acc ++ a1.data.toList) ++ [UInt8.ofNat (wl c.toNat).toNat], 1, rfl, ⟨?_⟩, ⟨k4.iter (k3.iter (by exact HIT2.out) (by omega)) (by omega)⟩, ⟨((dn HB2.out _).trans b3).trans b4⟩, ⟨HE3.out⟩, ⟨by omega⟩, ⟨by rw [List.length_append, List.length_singleton]; omega⟩⟩
                rw [Lib.byteCells_append, ← hc]
                exact Or.inr h4
              case measure => exact meas HIT.out (k4.iter (k3.iter (by exact HIT2.out) (by omega)) (by omega)) hp (Nat.lt_succ_self _)
            · have HE3 := HE.out
              rw [fgo_letter _ _ _ _ _ HK.out, if_neg hl] at HE3
              have HE3 := Aside0.mk HE3
              by_cases hl2 : last = 2
              · have hacc : acc = [] := Classical.byContradiction fun hh => hl ⟨hl2, hh⟩
                subst hl2 hacc
                clear hl
                go_wp2_with (first | (go_at_call 26; refine (name_what.calls 3 c.toNat 1 (wl c.toNat) _ (what_is _ _ (by omega) HK.out)).mono ?_; rintro e W1 ⟨rfl, ⟨m, rfl⟩⟩) | (go_at_call 34; refine (Try.Builder_Len_f w.heap.size w.heap.size _ _ (by exact HI2.out)).mono ?_; rintro e W2 ⟨rfl, rfl⟩) | (go_at_call 36; refine (Try.Builder_WriteRune_k w.heap.size w.heap.size (Lib.byteCells []) (wl c.toNat) (by omega) (by omega) _ (by exact HI2.out) (by rw [Lib.byteCells_length]; (simp)) (by exact HSZ2.out)).mono ?_; rintro e W4 ⟨rfl, h4, b4, k4⟩))
                go_roundw
                case rel =>
                  have hc := HC.out
                  refine ⟨pos + 1, [] ++ [UInt8.ofNat (wl c.toNat).toNat], 1, rfl, ⟨?_⟩, ⟨k4.iter (by exact HIT2.out) (by omega)⟩, ⟨(dn HB2.out _).trans b4⟩, ⟨HE3.out⟩, ⟨by omega⟩, ⟨by rw [List.length_append, List.length_singleton]; show 0 + 1 ≤ _; omega⟩⟩
                  rw [Lib.byteCells_append, ← hc]
                  exact Or.inr h4
                case measure => exact meas HIT.out (k4.iter (by exact HIT2.out) (by omega)) hp (Nat.lt_succ_self _)
              · have hb : (last == 2) = false := beq_eq_false_iff_ne.2 hl2
                clear hl hl2
                go_wp2_with (first | (go_at_call 26; refine (name_what.calls 3 c.toNat 1 (wl c.toNat) _ (what_is _ _ (by omega) HK.out)).mono ?_; rintro e W1 ⟨rfl, ⟨m, rfl⟩⟩) | (go_at_call 36; refine (Try.Builder_WriteRune_k w.heap.size w.heap.size (Lib.byteCells acc) (wl c.toNat) (by omega) (by omega) _ (by exact HI2.out) (by rw [Lib.byteCells_length]; omega) (by exact HSZ2.out)).mono ?_; rintro e W4 ⟨rfl, h4, b4, k4⟩))
                go_roundw
                case rel =>
                  have hc := HC.out
                  refine ⟨pos + 1, acc ++ [UInt8.ofNat (wl c.toNat).toNat], 1, rfl, ⟨?_⟩, ⟨k4.iter (by exact HIT2.out) (by omega)⟩, ⟨(dn HB2.out _).trans b4⟩, ⟨HE3.out⟩, ⟨by omega⟩, ⟨by rw [List.length_append, List.length_singleton]; omega⟩⟩
                  rw [Lib.byteCells_append, ← hc]
                  exact Or.inr h4
                case measure => exact meas HIT.out (k4.iter (by exact HIT2.out) (by omega)) hp (Nat.lt_succ_self _)
          · have HK := Aside0.mk hk
            clear hk
            by_cases hacc : acc = []
            · subst hacc
              go_wp2_with (first | (go_at_call 26; refine (name_what.calls 3 c.toNat 2 (wl c.toNat) _ (what_is _ _ (by omega) HK.out)).mono ?_; rintro e W1 ⟨rfl, ⟨m, rfl⟩⟩) | (go_at_call 34; refine (Try.Builder_Len_f w.heap.size w.heap.size _ _ (by exact HI2.out)).mono ?_; rintro e W2 ⟨rfl, rfl⟩))
              have e1 := form_none HF.out (HE.out.symm.trans (fgo_sep0 _ _ _ _ HK.out))
              obtain ⟨rfl, rfl⟩ := e1
              go_ret2
              exact ⟨rfl, dn HB2.out _⟩
            · have HA := Aside0.mk hacc
              have hal : 0 < (Lib.byteCells acc).length := by rw [Lib.byteCells_length]; exact List.length_pos_iff.2 hacc
              clear hacc
              go_wp2_with (first | (go_at_call 26; refine (name_what.calls 3 c.toNat 2 (wl c.toNat) _ (what_is _ _ (by omega) HK.out)).mono ?_; rintro e W1 ⟨rfl, ⟨m, rfl⟩⟩) | (go_at_call 34; refine (Try.Builder_Len_f w.heap.size w.heap.size _ _ (by exact HI2.out)).mono ?_; rintro e W2 ⟨rfl, rfl⟩))
              go_roundw
              case rel =>
                exact ⟨pos + 1, acc, 2, rfl, ⟨HI2.out⟩, ⟨HIT2.out⟩, ⟨dn HB2.out _⟩, ⟨(fgo_sep _ _ _ _ _ HK.out HA.out).symm.trans HE.out⟩, ⟨by omega⟩, ⟨by omega⟩⟩
              case measure =>
                exact meas HIT.out (by exact HIT2.out) hp (Nat.lt_succ_self _)
        · have hh := decode_high a0 pos hp (by omega)
          have hdl := decode_le a0 pos
          have HG2 := HG.out
          rw [HS.out] at HG2
          have HE := Aside0.mk HG2
          have HB2 := Aside0.mk hbw2
          have HK : Aside0 (wk ((Utf8.decode a0 pos).1 : Int) = 0) := ⟨wk_high _ (by omega)⟩
          have HK2 : Aside0 (wk ((a0[pos]'hp).toNat : Int) = 0) := ⟨wk_high _ (by omega)⟩
          clear HG2 hit hI hbw hI2 hit2 hbw2
          go_wp2_with (go_at_call 26; refine (name_what.calls 3 ((Utf8.decode a0 pos).1 : Int) 0 (wl ((Utf8.decode a0 pos).1 : Int)) _ (what_is _ _ (by omega) HK.out)).mono ?_; rintro e W1 ⟨rfl, ⟨m, rfl⟩⟩)
          have e1 := form_none HF.out (HE.out.symm.trans (fgo_none _ _ _ _ _ HK2.out))
          obtain ⟨rfl, rfl⟩ := e1
          go_ret2
          exact ⟨rfl, dn HB2.out _⟩
      · have hnx : ∀ ty, (Instr.next (.pointer (some ⟨w.heap.size + 1, 0, none⟩)) true ty).run Try.prog wr = _ := fun ty => Lib.run_next_end_at wr (w.heap.size + 1) a0 pos ty hit hp
        go_wp2_with (go_at_call 37; refine (Try.Builder_String_any_k w.heap.size w.heap.size acc _ hI (by omega)).mono ?_; rintro e W1 ⟨rfl, _, b1, _⟩)
        have hd : a0.data.toList.drop pos = [] := List.drop_eq_nil_of_le (by rw [size_len]; omega)
        have HG2 := HG.out
        rw [hd, fgo] at HG2
        have e1 := form_some HF.out HG2.symm
        obtain ⟨rfl, rfl⟩ := e1
        go_ret2
        exact ⟨rfl, hbw.trans b1⟩

end Go.Proofs.Ytililldgddgdcaa.PA

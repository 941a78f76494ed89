/- The walk of version.May: it returns what 'version_May.f' says; with it what digits, plain and ident come to. -/
import Derived.Test.YthnajibbkinlkaaGreatDoorPVx0
import Derived.Test.YthnajibbkinlkaaGreatDoorDB
import Derived.Test.YthnajibbkinlkaaGreatDoorPVx1
import Derived.Test.YthnajibbkinlkaaGreatDoorShelf
import Derived.Shelf.SlicesE.IndexFunc
namespace Go.Proofs.YthnajibbkinlkaaGreatDoor.PV
open Go.RowKit Go.Proofs.YthnajibbkinlkaaGreatDoorW.PrintWords Go.Proofs.YthnajibbkinlkaaGreatDoorW.PrintLast Go.Proofs.YthnajibbkinlkaaGreatDoorW.PrintMore
attribute [local go_sem] max2_int min2_int max_two min_two max_three min_three max_four min_four   -- for this text's walks alone
set_option linter.unusedVariables false
set_option linter.unusedSimpArgs false

theorem size_len (s : ByteArray) : s.data.toList.length = s.size := by rw [Array.length_toList]; rfl
theorem drop_at (s : ByteArray) (i : Nat) (h : i < s.size) : s.data.toList.drop i = s[i] :: s.data.toList.drop (i + 1) := by
  rw [List.drop_eq_getElem_cons (by rw [size_len]; exact h)]; rfl
theorem bt_nat (s : ByteArray) (i : Nat) (h : i < s.size) : bt s (i : Int) = ((s[i]'h).toNat : Int) := by
  unfold bt
  rw [dif_pos (by rw [Int.toNat_natCast]; exact h)]
  rfl
theorem wrap_nat (i : Nat) (h : i < 9223372036854775807) : wrap64 ((i : Int) + 1) = ((i + 1 : Nat) : Int) := by unfold wrap64; omega
def dgc (c : UInt8) : Bool := decide (48 ≤ (c.toNat : Int) ∧ (c.toNat : Int) ≤ 57)
def idc (c : UInt8) : Bool := decide ((48 ≤ (c.toNat : Int) ∧ (c.toNat : Int) ≤ 57) ∨ (97 ≤ (c.toNat : Int) ∧ (c.toNat : Int) ≤ 122) ∨ (c.toNat : Int) = 45)
/-- Digits alone? -/
def digL (l : List UInt8) : Bool := l.all dgc && decide (l ≠ [])
def plainL (l : List UInt8) : Bool := decide (l.length = 1) || decide (l.head? ≠ some 48)
/-- An identifier? -/
def identL (l : List UInt8) : Bool := decide (1 ≤ l.length ∧ l.length ≤ 16) && (l.all idc && (!digL l || plainL l))
abbrev identB (s : ByteArray) : Bool := identL s.data.toList

theorem bne_nil (l : List UInt8) : (l != ([] : List UInt8)) = decide (l ≠ []) := by cases l <;> rfl
theorem digits_l (s : ByteArray) (hs : s.size < 9223372036854775807) (d : Nat) : ∀ (k i : Nat), i ≤ s.size → s.size - i = d → d < k → version_digits.l0 k s (s.size : Int) (i : Int) = some ((s.data.toList.drop i).all dgc && decide (s.data.toList ≠ [])) := by
  induction d with
  | zero =>
    intro k i hi hd hk
    obtain ⟨k, rfl⟩ : ∃ m, k = m + 1 := ⟨k - 1, by omega⟩
    rw [version_digits.l0, if_neg (by omega), List.drop_eq_nil_of_le (by rw [size_len]; omega), ByteArray.toList_eq, bne_nil]
    rfl
  | succ d ih =>
    intro k i hi hd hk
    obtain ⟨k, rfl⟩ : ∃ m, k = m + 1 := ⟨k - 1, by omega⟩
    have hlt : i < s.size := by omega
    rw [version_digits.l0, if_pos (by omega), if_pos (by omega), if_pos (by omega), bt_nat s i hlt, wrap_nat i (by omega), ih k (i + 1) (by omega) (by omega) (by omega), drop_at s i hlt, List.all_cons]
    generalize (s[i]'hlt) = c
    by_cases h1 : (c.toNat : Int) < 48
    · rw [if_pos h1, show dgc c = false from decide_eq_false (by omega)]; rfl
    · rw [if_neg h1]
      by_cases h2 : (c.toNat : Int) > 57
      · rw [if_pos h2, show dgc c = false from decide_eq_false (by omega)]; rfl
      · rw [if_neg h2, show dgc c = true from decide_eq_true (by omega), Bool.true_and]
theorem digits_eq (s : ByteArray) (hs : s.size < 9223372036854775807) (k : Nat) (hk : s.size < k) : version_digits.f k s = some (digL s.data.toList) := by
  have := digits_l s hs s.size k 0 (by omega) (by omega) hk
  rw [List.drop_zero] at this
  exact this
theorem head_at (s : ByteArray) (h : 0 < s.size) : s.data.toList.head? = some (s[0]'h) := by
  have := drop_at s 0 h
  rw [List.drop_zero] at this
  rw [this]; rfl
theorem plain_eq (s : ByteArray) (h : 0 < s.size) : version_plain.f s = some (plainL s.data.toList) := by
  unfold version_plain.f plainL
  rw [size_len, head_at s h]
  by_cases h1 : s.size = 1
  · rw [if_pos (by omega), decide_eq_true h1, Bool.true_or]
  · rw [if_neg (by omega), if_pos (by omega), decide_eq_false h1, Bool.false_or, show bt s 0 = ((s[0]'h).toNat : Int) from bt_nat s 0 h]
    congr 1
    by_cases h2 : (s[0]'h) = 48
    · rw [h2]; decide
    · rw [show decide (some (s[0]'h) ≠ some 48) = true from decide_eq_true (fun hh => h2 (Option.some.inj hh)), bne_iff_ne]
      intro hh
      apply h2
      exact UInt8.toNat_inj.1 (by have : ((48 : UInt8).toNat : Int) = 48 := rfl; omega)
theorem ident_l (s : ByteArray) (h0 : 0 < s.size) (hs : s.size ≤ 16) (d : Nat) : ∀ (k i : Nat), i ≤ s.size → s.size - i = d → 3 * d + 20 < k → version_ident.l0 k s (s.size : Int) (i : Int) = some ((s.data.toList.drop i).all idc && (!digL s.data.toList || plainL s.data.toList)) := by
  induction d with
  | zero =>
    intro k i hi hd hk
    obtain ⟨k, rfl⟩ : ∃ m, k = m + 1 := ⟨k - 1, by omega⟩
    rw [version_ident.l0, if_neg (by omega), List.drop_eq_nil_of_le (by rw [size_len]; omega), digits_eq s (by omega) k (by omega), Option.bind_some, plain_eq s h0]
    cases digL s.data.toList <;> rfl
  | succ d ih =>
    intro k i hi hd hk
    obtain ⟨k, rfl⟩ : ∃ m, k = m + 3 := ⟨k - 3, by omega⟩
    have hlt : i < s.size := by omega
    have h1 := ih (k + 1) (i + 1) (by omega) (by omega) (by omega)
    have h2 := ih k (i + 1) (by omega) (by omega) (by omega)
    rw [version_ident.l0, if_pos (by omega), if_pos (by omega), if_pos (by omega), bt_nat s i hlt, drop_at s i hlt, List.all_cons]
    generalize (s[i]'hlt) = c
    by_cases hd : 48 ≤ (c.toNat : Int) ∧ (c.toNat : Int) ≤ 57
    · rw [if_pos (by omega), decide_eq_true hd.2, version_ident.j2, if_pos rfl, wrap_nat i (by omega), h1, show idc c = true from decide_eq_true (.inl hd), Bool.true_and]
    · have e : (if (c.toNat : Int) ≥ 48 then version_ident.j2 (k + 2) s (c.toNat : Int) (s.size : Int) (i : Int) (decide ((c.toNat : Int) ≤ 57)) else version_ident.j2 (k + 2) s (c.toNat : Int) (s.size : Int) (i : Int) false) = version_ident.j2 (k + 2) s (c.toNat : Int) (s.size : Int) (i : Int) false := by
        by_cases h48 : (c.toNat : Int) ≥ 48
        · rw [if_pos h48, decide_eq_false (by omega)]
        · rw [if_neg h48]
      rw [e, version_ident.j2, if_neg (by decide)]
      by_cases ha : 97 ≤ (c.toNat : Int) ∧ (c.toNat : Int) ≤ 122
      · rw [if_pos (by omega), decide_eq_true ha.2, version_ident.j3, if_pos rfl, wrap_nat i (by omega), h2, show idc c = true from decide_eq_true (.inr (.inl ha)), Bool.true_and]
      · have e2 : (if (c.toNat : Int) ≥ 97 then version_ident.j3 (k + 1) s (c.toNat : Int) (s.size : Int) (i : Int) (decide ((c.toNat : Int) ≤ 122)) else version_ident.j3 (k + 1) s (c.toNat : Int) (s.size : Int) (i : Int) false) = version_ident.j3 (k + 1) s (c.toNat : Int) (s.size : Int) (i : Int) false := by
          by_cases h97 : (c.toNat : Int) ≥ 97
          · rw [if_pos h97, decide_eq_false (by omega)]
          · rw [if_neg h97]
        rw [e2, version_ident.j3, if_neg (by decide)]
        by_cases h45 : (c.toNat : Int) = 45
        · rw [if_pos h45, wrap_nat i (by omega), h2, show idc c = true from decide_eq_true (.inr (.inr h45)), Bool.true_and]
        · rw [if_neg h45, show idc c = false from decide_eq_false (by omega)]; rfl
theorem ident_eq (s : ByteArray) (k : Nat) (hk : 100 ≤ k) : version_ident.f k s = some (identB s) := by
  obtain ⟨k, rfl⟩ : ∃ m, k = m + 1 := ⟨k - 1, by omega⟩
  unfold version_ident.f identB identL
  have hj : version_ident.j0 (k + 1) s true = some false := by rw [version_ident.j0, if_pos rfl]
  rw [ByteArray.toList_eq, size_len]
  by_cases h0 : s.data.toList = []
  · have : s.size = 0 := by rw [← size_len, h0]; rfl
    rw [if_pos h0, hj, decide_eq_false (by omega)]; rfl
  · have hp : 0 < s.size := by rw [← size_len]; exact List.length_pos_iff.2 h0
    rw [if_neg h0]
    by_cases h16 : (s.size : Int) > 16
    · rw [decide_eq_true h16, hj, decide_eq_false (by omega)]; rfl
    · rw [decide_eq_false h16, version_ident.j0, if_neg (by decide), decide_eq_true (by omega), Bool.true_and]
      have := ident_l s hp (by omega) s.size k 0 (by omega) (by omega) (by omega)
      rw [List.drop_zero] at this
      exact this

def mayV (a b c : Int) (l : List ByteArray) : Bool := decide (a ≤ 2147483647 ∧ b ≤ 2147483647 ∧ c ≤ 2147483647 ∧ l.length ≤ 8) && l.all identB
def version_May.f (a0_0 a0_1 a0_2 : Int) (l0_3 : List ByteArray) : Option Int := some (if mayV a0_0 a0_1 a0_2 l0_3 = true then 0 else 70)

theorem may_closure (w : World) (hG : GW w) : PredAt Tryz.prog 34 #[] Value.string (fun s => !identB s) w := by
  intro W x hb
  have hg := hG.below hb
  have HG := Aside0.mk hg
  clear hG hb hg
  show Calls Tryz.prog 34 #[.string x] W _
  go_enter Tryz.func34, Tryz.ntmps34
  go_wp2_with (go_at_call 35; refine (version_ident.calls 100 x (identB x) _ HG.out (ident_eq x 100 (Nat.le_refl _))).mono ?_; rintro e w1 ⟨rfl, ⟨m, rfl⟩⟩)
  go_ret
  exact ⟨rfl, _, rfl⟩

/-- A row of strings that is read, cell by cell. -/
theorem C_cell {w : World} {A : Option Addr} {n : Nat} {xs : List ByteArray} (h : Kd.C Kd.string w A n xs) (j : Nat) (hj : j < xs.length) : ∃ ad, A = some ad ∧ w.cell? (ad.add j) = some (.string (xs[j]'hj)) := by
  have hn := h.1
  obtain ⟨ad, e, hc⟩ := h.2.2 (by omega)
  obtain ⟨c, hl, hk, hcell⟩ := hc j _ (List.getElem?_eq_getElem hj)
  refine ⟨ad, e, ?_⟩
  have hk' : c = [Value.string (xs[j]'hj)] := hk
  subst hk'
  have := hcell 0 _ rfl
  rw [show j * Kd.string.sz + 0 = j from by show j * 1 + 0 = j; omega] at this
  exact this
theorem addr_add (b off j : Nat) : (⟨b, off, none⟩ : Addr).add j = ⟨b, off + j, none⟩ := by
  unfold Addr.add
  by_cases h : j = 0 <;> simp [h]
theorem enters54 : ∀ args w, (callFunc 34 args).run Tryz.prog w = .ok (.enter 34 args) w := enters_of Tryz.func34 (by kernel_rfl) rfl
theorem cell_spot {w : World} {b o : Nat} {p : Option Nat} {v : Value} (h : w.cell? ⟨b, o, p⟩ = some v) : p = none := by
  unfold World.cell? at h
  split at h
  · cases p with
    | none => rfl
    | some x => simp at h
  · cases h
/-- A row of strings that is read: nothing, or cells of a block. -/
theorem C_cells {w : World} {A : Option Addr} {n : Nat} {xs : List ByteArray} (h : Kd.C Kd.string w A n xs) (hp : 0 < xs.length) : ∃ b off, A = some ⟨b, off, none⟩ ∧ ∀ j (hj : j < xs.length), w.cell? ⟨b, off + j, none⟩ = some (.string (xs[j]'hj)) := by
  obtain ⟨⟨b, off, p⟩, rfl, h0⟩ := C_cell h 0 hp
  have hs : p = none := cell_spot h0
  subst hs
  refine ⟨b, off, rfl, fun j hj => ?_⟩
  obtain ⟨ad, e, hc⟩ := C_cell h j hj
  cases e
  rw [addr_add] at hc
  exact hc

set_option maxHeartbeats 4000000 in
set_option maxRecDepth 100000 in
theorem version_May.calls (a0_0 : Int) (a0_1 : Int) (a0_2 : Int) (A0_3 : Option Addr) (c0_3 : Nat) (l0_3 : List ByteArray) (r : Int) (w : World) (hr0_3 : Kd.C Kd.string w A0_3 l0_3.length l0_3) (hc0_3 : l0_3.length ≤ c0_3) (hG : GW w) (h : version_May.f a0_0 a0_1 a0_2 l0_3 = some r) :
    Calls Tryz.prog 22 #[.agg #[.int .u32 a0_0, .int .u32 a0_1, .int .u32 a0_2, .slice A0_3 l0_3.length c0_3]] w fun e w' => e = .returned (.int .i64 r) ∧ DBelow w.heap.size w w' := by
  have HH := Aside0.mk (Option.some.inj h)
  have HR := Aside0.mk hr0_3
  have HC := Aside0.mk hc0_3
  have HG := Aside0.mk hG
  clear h hr0_3 hc0_3 hG
  by_cases hmax : a0_0 ≤ 2147483647 ∧ a0_1 ≤ 2147483647 ∧ a0_2 ≤ 2147483647
  case neg =>
    have hf : mayV a0_0 a0_1 a0_2 l0_3 = false := by unfold mayV; rw [decide_eq_false (by omega)]; rfl
    have hr := HH.out
    rw [if_neg (by rw [hf]; decide)] at hr
    subst hr
    have hm : (2147483647 : Int) < (if (if a0_0 < a0_1 then a0_1 else a0_0) < a0_2 then a0_2 else (if a0_0 < a0_1 then a0_1 else a0_0)) := by
      split <;> split at * <;> omega
    clear hf hmax
    go_enter Tryz.func22, Tryz.ntmps22
    go_wp2
    all_goals (go_ret; exact ⟨rfl, (DBelow.refl _ _).alloc (Nat.le_refl _) _⟩)
  case pos =>
    obtain ⟨m1, m2, m3⟩ := hmax
    by_cases h8 : l0_3.length ≤ 8
    case neg =>
      have hf : mayV a0_0 a0_1 a0_2 l0_3 = false := by unfold mayV; rw [decide_eq_false (by omega)]; rfl
      have hr := HH.out
      rw [if_neg (by rw [hf]; decide)] at hr
      subst hr
      clear hf
      go_enter Tryz.func22, Tryz.ntmps22
      go_wp2
      all_goals (go_ret; exact ⟨rfl, (DBelow.refl _ _).alloc (Nat.le_refl _) _⟩)
    case pos =>
      have hf : mayV a0_0 a0_1 a0_2 l0_3 = l0_3.all identB := by unfold mayV; rw [decide_eq_true ⟨m1, m2, m3, h8⟩, Bool.true_and]
      have hr := HH.out
      rw [hf] at hr
      by_cases h0 : l0_3 = []
      · subst h0
        have hr : (0 : Int) = r := hr
        subst hr
        clear hf
        go_enter Tryz.func22, Tryz.ntmps22
        go_wp2_with (go_at_call 9; refine (Tryz.slices_ContainsFunc_empty (α := ByteArray) _ _ _ _).mono ?_; rintro e w1 ⟨rfl, rfl⟩)
        all_goals (go_ret; exact ⟨rfl, (DBelow.refl _ _).alloc (Nat.le_refl _) _⟩)
      · have hp : 0 < l0_3.length := List.length_pos_iff.2 h0
        obtain ⟨b, off, rfl, hc0⟩ := C_cells HR.out hp
        have HCC := Aside0.mk hc0
        have hbl : b < w.heap.size := World.block_lt_of_cell? w _ (hc0 0 hp)
        clear hc0
        have hle : l0_3.length ≤ 9223372036854775807 := by omega
        have hall : (l0_3.take l0_3.length).any (fun s => !identB s) = !l0_3.all identB := by rw [List.take_length, List.not_all_eq_any_not]
        by_cases ha : l0_3.all identB = true
        all_goals
          first | (rw [if_pos ha] at hr) | (rw [if_neg ha] at hr; replace ha := Bool.eq_false_iff.2 ha)
          rw [ha] at hall
          have HCON := Aside0.mk (Tryz.slices_ContainsFunc Value.string (fun s => !identB s) 34 #[] enters54 b off l0_3.length c0_3 l0_3 (w.alloc (.cells #[.int .u32 a0_0, .int .u32 a0_1, .int .u32 a0_2, .slice (some ⟨b, off, none⟩) l0_3.length c0_3] 32)) (may_closure _ (GW.dbelow HG.out ((DBelow.refl _ _).alloc (Nat.le_refl _) _))) (Nat.le_refl _) hle (fun j hj => by
            rw [getElem!_pos l0_3 j hj]
            exact (((DBelow.refl w.heap.size w).alloc (Nat.le_refl _) _).cell hbl).trans (HCC.out j hj)))
          rw [hall] at HCON
          subst hr
          clear hf hall ha
          go_enter Tryz.func22, Tryz.ntmps22
          go_wp2_with (go_at_call 9; refine HCON.out.mono ?_; rintro e w1 ⟨rfl, ⟨m, rfl⟩⟩)
          all_goals (go_ret; exact ⟨rfl, dpw_below_drewN ((DBelow.refl _ _).alloc (Nat.le_refl _) _) _⟩)

end Go.Proofs.YthnajibbkinlkaaGreatDoor.PV

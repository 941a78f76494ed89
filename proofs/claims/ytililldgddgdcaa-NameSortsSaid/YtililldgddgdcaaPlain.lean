/- Plain laws on names: what the printed functions of chapter 6 and of its reference come to, told by lists of bytes. -/
import Derived.Test.YtililldgddgdcaaPAx8
namespace Go.Proofs.Ytililldgddgdcaa.Pure
open Go.RowKit Go.Proofs.Ytililldgddgdcaa.PA Go.Proofs.YtililldgddgdcaaW.PrintWords Go.Proofs.YtililldgddgdcaaW.PrintLast

/-! ### lists -/
def low (c : UInt8) : UInt8 := UInt8.ofNat (wl c.toNat).toNat
def rform (sg : List UInt8) : List UInt8 → Bool → List UInt8
  | [], _ => []
  | c :: r, run => if wk c.toNat = 1 then (if run = true then sg else []) ++ low c :: rform sg r false else rform sg r true
def lastk : List UInt8 → Int → Int
  | [], l => l
  | c :: r, _ => lastk r (wk c.toNat)
def okc (c : UInt8) : Bool := decide (wk c.toNat ≠ 0)
def hd1 : List UInt8 → Bool
  | [] => false
  | c :: _ => decide (wk c.toNat = 1)
def mayL (l : List UInt8) : Bool := decide (1 ≤ l.length ∧ l.length ≤ 64) && (l.all okc && (hd1 l && decide (lastk l 0 = 1)))

theorem beq_dec (a b : List UInt8) : (a == b) = decide (a = b) := by by_cases h : a = b <;> simp [h]
theorem ba_ext {a b : ByteArray} (h : a.data.toList = b.data.toList) : a = b := by
  cases a; cases b; congr 1; exact Array.toList_inj.1 h
theorem toList_arr (l : List UInt8) : (⟨l.toArray⟩ : ByteArray).data.toList = l := rfl

theorem wk_wl (a : Int) (h : wk a = 1) : wk (wl a) = 1 ∧ wl (wl a) = wl a ∧ 0 ≤ wl a ∧ wl a < 128 := by
  have h1 : (65 ≤ a ∧ a ≤ 90) ∨ (97 ≤ a ∧ a ≤ 122) ∨ (48 ≤ a ∧ a ≤ 57) := by
    unfold wk at h
    split at h
    · assumption
    · split at h <;> omega
  rcases h1 with h1 | h1 | h1
  · have e : wl a = a + 32 := by unfold wl; rw [if_pos h1]
    have e2 : wl (a + 32) = a + 32 := by unfold wl; rw [if_neg (by omega)]
    rw [e]
    refine ⟨?_, e2, by omega, by omega⟩
    unfold wk; rw [if_pos (by omega)]
  · have e : wl a = a := by unfold wl; rw [if_neg (by omega)]
    rw [e]
    exact ⟨h, e, by omega, by omega⟩
  · have e : wl a = a := by unfold wl; rw [if_neg (by omega)]
    rw [e]
    exact ⟨h, e, by omega, by omega⟩
theorem low_nat (c : UInt8) (h : wk c.toNat = 1) : ((low c).toNat : Int) = wl c.toNat := by
  have h1 := wk_wl _ h
  have h2 : (wl c.toNat).toNat < 256 := by omega
  rw [low, UInt8.toNat_ofNat', Nat.mod_eq_of_lt h2]
  omega
theorem low_wk (c : UInt8) (h : wk c.toNat = 1) : wk (low c).toNat = 1 := by rw [low_nat c h]; exact (wk_wl _ h).1
theorem low_low (c : UInt8) (h : wk c.toNat = 1) : low (low c) = low c := by
  have h1 := low_nat c h
  have h2 := (wk_wl _ h).2.1
  show UInt8.ofNat (wl (low c).toNat).toNat = _
  rw [h1, h2]
  rfl

theorem okc_iff (c : UInt8) : okc c = true ↔ wk c.toNat = 1 ∨ wk c.toNat = 2 := by
  unfold okc
  rw [decide_eq_true_eq]
  rcases wk_cases c.toNat with h | h | h <;> rw [h] <;> decide

theorem fgo_bad (by_ : List UInt8) (r : List UInt8) : ∀ acc last, r.all okc = false → fgo by_ r acc last = none := by
  induction r with
  | nil => intro acc last h; cases h
  | cons c r ih =>
    intro acc last h
    rw [List.all_cons] at h
    rcases wk_cases c.toNat with hk | hk | hk
    · exact fgo_none _ _ _ _ _ hk
    · have : okc c = true := (okc_iff c).2 (.inl hk)
      rw [this, Bool.true_and] at h
      rw [fgo_letter _ _ _ _ _ hk]; exact ih _ _ h
    · have : okc c = true := (okc_iff c).2 (.inr hk)
      rw [this, Bool.true_and] at h
      by_cases ha : acc = []
      · subst ha; exact fgo_sep0 _ _ _ _ hk
      · rw [fgo_sep _ _ _ _ _ hk ha]; exact ih _ _ h

theorem fgo_good (by_ : List UInt8) (r : List UInt8) : ∀ acc (last : Int), acc ≠ [] → (last = 1 ∨ last = 2) → r.all okc = true → fgo by_ r acc last = some (acc ++ rform by_ r (last == 2), lastk r last) := by
  induction r with
  | nil => intro acc last _ _ _; simp [fgo, rform, lastk]
  | cons c r ih =>
    intro acc last ha hl h
    rw [List.all_cons, Bool.and_eq_true] at h
    rcases (okc_iff c).1 h.1 with hk | hk
    · rw [fgo_letter _ _ _ _ _ hk, ih _ _ (by simp) (.inl rfl) h.2, rform, if_pos hk, lastk, hk]
      rcases hl with rfl | rfl
      · rw [if_neg (fun hh => absurd hh.1 (by decide))]; simp [low]
      · rw [if_pos ⟨rfl, ha⟩]; simp [low]
    · have h1 : ¬ wk c.toNat = 1 := by rw [hk]; decide
      rw [fgo_sep _ _ _ _ _ hk ha, ih _ _ ha (.inr rfl) h.2, rform, if_neg h1, lastk, hk]
      rfl

theorem lastk_cons (c : UInt8) (r : List UInt8) (a b : Int) : lastk (c :: r) a = lastk (c :: r) b := rfl

theorem fgo_start (by_ l : List UInt8) (h : l ≠ []) : fgo by_ l [] 2 = if l.all okc = true ∧ hd1 l = true then some (rform by_ l false, lastk l 0) else none := by
  cases l with
  | nil => exact absurd rfl h
  | cons c r =>
    by_cases h1 : (c :: r).all okc = true
    · have h2 := h1
      rw [List.all_cons, Bool.and_eq_true] at h2
      rcases (okc_iff c).1 h2.1 with hk | hk
      · rw [if_pos ⟨h1, by simp [hd1, hk]⟩, fgo_letter _ _ _ _ _ hk, if_neg (by simp), fgo_good _ _ _ _ (by simp) (.inl rfl) h2.2, rform, if_pos hk, lastk, hk]
        simp [low]
      · rw [if_neg (fun hh => by simp [hd1, hk] at hh), fgo_sep0 _ _ _ _ hk]
    · rw [if_neg (fun hh => h1 hh.1)]
      exact fgo_bad _ _ _ _ (Bool.eq_false_iff.2 h1)

abbrev LL (s : ByteArray) : List UInt8 := s.data.toList

theorem form_eq (a0 a1 : ByteArray) (h1 : a1.size ≤ 1) : ∃ x, name_form.f a0 a1 = some (x, mayL (LL a0)) ∧ (mayL (LL a0) = true → x = ⟨(rform (LL a1) (LL a0) false).toArray⟩) := by
  rw [name_form.f, if_pos h1]
  have hl := size_len a0
  by_cases h0 : a0.size < 1 ∨ 64 < a0.size
  · have hm : mayL (LL a0) = false := by
      unfold mayL
      rw [show decide (1 ≤ (LL a0).length ∧ (LL a0).length ≤ 64) = false from decide_eq_false (by show ¬ (1 ≤ a0.data.toList.length ∧ a0.data.toList.length ≤ 64); omega)]
      rfl
    rw [if_pos h0, hm]
    exact ⟨_, rfl, fun h => by cases h⟩
  · rw [if_neg h0]
    have hb : decide (1 ≤ (LL a0).length ∧ (LL a0).length ≤ 64) = true := decide_eq_true (by show 1 ≤ a0.data.toList.length ∧ a0.data.toList.length ≤ 64; omega)
    rw [fgo_start _ _ (by intro hh; rw [hh] at hl; simp at hl; omega)]
    by_cases hc : (LL a0).all okc = true ∧ hd1 (LL a0) = true
    · rw [if_pos hc]
      refine ⟨_, ?_, fun _ => rfl⟩
      unfold mayL
      rw [hb, hc.1, hc.2]
      simp only [Bool.true_and]
      congr 2
    · rw [if_neg hc]
      have hm : mayL (LL a0) = false := by
        unfold mayL
        rw [hb, Bool.true_and]
        by_cases h2 : (LL a0).all okc = true
        · have h3 : hd1 (LL a0) = false := Bool.eq_false_iff.2 fun hh => hc ⟨h2, hh⟩
          rw [h3]; simp
        · rw [Bool.eq_false_iff.2 h2]; rfl
      rw [hm]
      exact ⟨_, rfl, fun h => by cases h⟩

/-! ### what the program's functions come to -/
def nm (a : ByteArray) : List UInt8 := rform [45] (LL a) false
def sq (a : ByteArray) : List UInt8 := rform [] (LL a) false
abbrev may (a : ByteArray) : Bool := mayL (LL a)

theorem Norm_eq (a : ByteArray) : name_Norm.f a = some (if may a = true then (⟨(nm a).toArray⟩, 0) else (⟨#[]⟩, 60)) := by
  obtain ⟨x, hx, hv⟩ := form_eq a (⟨#[45]⟩ : ByteArray) (by decide)
  rw [name_Norm.f, hx, Option.bind_some]
  by_cases h : may a = true
  · simp only []
    rw [if_pos h, if_pos h, hv h]; rfl
  · simp only []
    rw [if_neg h, if_neg h]
theorem Squash_eq (a : ByteArray) : name_Squash.f a = some (if may a = true then (⟨(sq a).toArray⟩, 0) else (⟨#[]⟩, 60)) := by
  obtain ⟨x, hx, hv⟩ := form_eq a (⟨#[]⟩ : ByteArray) (by decide)
  rw [name_Squash.f, hx, Option.bind_some]
  by_cases h : may a = true
  · simp only []
    rw [if_pos h, if_pos h, hv h]; rfl
  · simp only []
    rw [if_neg h, if_neg h]
theorem Is_eq (a : ByteArray) : name_Is.f a = some (may a && decide (nm a = LL a)) := by
  rw [name_Is.f, Norm_eq, Option.bind_some]
  by_cases h : may a = true
  · rw [if_pos h, h, Bool.true_and]
    show (if (0 : Int) = 0 then some ((⟨(nm a).toArray⟩ : ByteArray).toList == a.toList) else some false) = _
    rw [if_pos rfl, ByteArray.toList_eq, ByteArray.toList_eq]
    exact congrArg some (beq_dec _ _)
  · rw [if_neg h, Bool.eq_false_iff.2 h, Bool.false_and]
    show (if (60 : Int) = 0 then _ else some false) = _
    rw [if_neg (by decide)]
theorem both_eq (a b s : ByteArray) (hs : s.size ≤ 1) : ∃ x y, name_both.f a b s = some (x, y, may a && may b) ∧ (may a = true → x = ⟨(rform (LL s) (LL a) false).toArray⟩) ∧ (may b = true → y = ⟨(rform (LL s) (LL b) false).toArray⟩) := by
  obtain ⟨x, hx, hv⟩ := form_eq a s hs
  obtain ⟨y, hy, hu⟩ := form_eq b s hs
  rw [name_both.f, hx, Option.bind_some, hy, Option.bind_some]
  refine ⟨x, y, ?_, hv, hu⟩
  simp only []
  by_cases h : mayL (LL a) = true
  · rw [if_pos h]; simp [h]
  · rw [if_neg h]; simp [Bool.eq_false_iff.2 h]
theorem Same_eq (a b : ByteArray) : name_Same.f a b = some (may a && (may b && decide (nm a = nm b))) := by
  obtain ⟨x, y, hx, h1, h2⟩ := both_eq a b (⟨#[45]⟩ : ByteArray) (by decide)
  rw [name_Same.f, hx, Option.bind_some]
  by_cases h : (may a && may b) = true
  · have h3 := Bool.and_eq_true_iff.1 h
    show (if (may a && may b) = true then some (x.toList == y.toList) else some false) = _
    rw [if_pos h, h1 h3.1, h2 h3.2, h3.1, h3.2, ByteArray.toList_eq, ByteArray.toList_eq]
    exact congrArg some (beq_dec _ _)
  · show (if (may a && may b) = true then some (x.toList == y.toList) else some false) = _
    rw [if_neg h, ← Bool.and_assoc, Bool.eq_false_iff.2 h, Bool.false_and]
theorem Like_eq (a b : ByteArray) : name_Like.f a b = some (may a && (may b && (decide (sq a = sq b) && !decide (nm a = nm b)))) := by
  obtain ⟨x, y, hx, h1, h2⟩ := both_eq a b (⟨#[]⟩ : ByteArray) (by decide)
  rw [name_Like.f, hx, Option.bind_some]
  show (if (may a && may b) = true then (if x.toList = y.toList then ((name_Same.f a b).bind fun t => some (!t)) else some false) else some false) = _
  by_cases h : (may a && may b) = true
  · have h3 := Bool.and_eq_true_iff.1 h
    rw [if_pos h, h1 h3.1, h2 h3.2, Same_eq, Option.bind_some, h3.1, h3.2, ByteArray.toList_eq, ByteArray.toList_eq]
    simp only [Bool.true_and]
    show (if sq a = sq b then _ else _) = _
    by_cases hq : sq a = sq b
    · rw [if_pos hq, decide_eq_true hq, Bool.true_and]
    · rw [if_neg hq, decide_eq_false hq, Bool.false_and]
  · rw [if_neg h]
    congr 1
    revert h
    generalize may a = p
    generalize may b = q
    cases p <;> cases q <;> simp

/-! ### the reference's functions -/
theorem bt_nat (s : ByteArray) (i : Nat) (h : i < s.size) : bt s (i : Int) = ((s[i]'h).toNat : Int) := by
  unfold bt
  rw [dif_pos (by rw [Int.toNat_natCast]; exact h)]
  rfl
theorem wrap_nat (i : Nat) (h : i < 9223372036854775807) : wrap64 ((i : Int) + 1) = ((i + 1 : Nat) : Int) := by unfold wrap64; omega
theorem letter_eq (a : Int) : yanklineref06_letter.f a = some (decide (wk a = 1)) := by
  unfold yanklineref06_letter.f wk
  simp only [ge_iff_le]
  rcases (show a < 48 ∨ (48 ≤ a ∧ a ≤ 57) ∨ (58 ≤ a ∧ a ≤ 64) ∨ (65 ≤ a ∧ a ≤ 90) ∨ (91 ≤ a ∧ a ≤ 96) ∨ (97 ≤ a ∧ a ≤ 122) ∨ 123 ≤ a from by omega) with c | c | c | c | c | c | c
  all_goals repeat (first | rw [if_pos (by omega)] | rw [if_neg (by omega)])
  all_goals first
    | rfl
    | (congr 1; first | (rw [decide_eq_true (by omega)]; rfl) | (rw [decide_eq_false (by omega)]; rfl))
    | (congr 1; symm; rw [decide_eq_false_iff_not]; split <;> decide)
    | (congr 1; rw [decide_eq_false (by omega)]; symm; rw [decide_eq_false_iff_not]; split <;> decide)

theorem wk2 (a : Int) : wk a = 2 ↔ a = 45 ∨ a = 95 ∨ a = 46 := by
  unfold wk
  constructor
  · intro h
    split at h
    · cases h
    · split at h
      · assumption
      · cases h
  · intro h
    rw [if_neg (by omega), if_pos h]

theorem May_l (s : ByteArray) (hs : s.size ≤ 64) (d : Nat) : ∀ (k i : Nat), i ≤ s.size → s.size - i = d → d < k → yanklineref06_May.l0 k s (i : Int) = some ((s.data.toList.drop i).all okc) := by
  induction d with
  | zero =>
    intro k i hi hd hk
    obtain ⟨k, rfl⟩ : ∃ m, k = m + 1 := ⟨k - 1, by omega⟩
    rw [yanklineref06_May.l0, if_neg (by omega), List.drop_eq_nil_of_le (by rw [size_len]; omega)]
    rfl
  | succ d ih =>
    intro k i hi hd hk
    obtain ⟨k, rfl⟩ : ∃ m, k = m + 1 := ⟨k - 1, by omega⟩
    have hlt : i < s.size := by omega
    have hr := ih k (i + 1) (by omega) (by omega) (by omega)
    rw [yanklineref06_May.l0, if_pos (by omega), if_pos (by omega), letter_eq, Option.bind_some, bt_nat s i hlt, wrap_nat i (by omega), hr, drop_at s i hlt, List.all_cons]
    generalize (s[i]'hlt) = c
    rcases wk_cases c.toNat with hk | hk | hk
    · have h1 : ¬ decide (wk c.toNat = 1) = true := by rw [hk]; decide
      have h2 := mt (wk2 c.toNat).2 (by rw [hk]; decide)
      have h3 : okc c = false := by unfold okc; rw [hk]; rfl
      rw [if_neg h1, if_neg (fun h => h2 (.inl h)), if_neg (fun h => h2 (.inr (.inl h))), if_neg (fun h => h2 (.inr (.inr h))), h3]; rfl
    · have h1 : decide (wk c.toNat = 1) = true := by rw [hk]; decide
      rw [if_pos h1, (okc_iff c).2 (.inl hk)]; rfl
    · have h1 : ¬ decide (wk c.toNat = 1) = true := by rw [hk]; decide
      rw [if_neg h1, (okc_iff c).2 (.inr hk), Bool.true_and]
      rcases (wk2 c.toNat).1 hk with h | h | h
      · rw [if_pos h]
      · rw [if_neg (by omega), if_pos h]
      · rw [if_neg (by omega), if_neg (by omega), if_pos h]

theorem hd1_at (s : ByteArray) (h : 0 < s.size) : hd1 s.data.toList = decide (wk (s[0]'h).toNat = 1) := by
  have := drop_at s 0 h
  rw [List.drop_zero] at this
  rw [this]; rfl
theorem lastk_append (l : List UInt8) (c : UInt8) (a : Int) : lastk (l ++ [c]) a = wk c.toNat := by
  induction l generalizing a with
  | nil => rfl
  | cons x l ih => rw [List.cons_append, lastk, ih]
theorem lastk_at (s : ByteArray) (h : 0 < s.size) : lastk s.data.toList 0 = wk (s[s.size - 1]'(by omega)).toNat := by
  have h1 : s.data.toList = s.data.toList.take (s.size - 1) ++ s.data.toList.drop (s.size - 1) := (List.take_append_drop _ _).symm
  rw [drop_at s (s.size - 1) (by omega), show s.data.toList.drop (s.size - 1 + 1) = [] from List.drop_eq_nil_of_le (by rw [size_len]; omega)] at h1
  rw [h1, lastk_append]

theorem May_eq (s : ByteArray) (k : Nat) (hk : 70 ≤ k) : yanklineref06_May.f k s = some (may s) := by
  have hl := size_len s
  obtain ⟨k, rfl⟩ : ∃ m, k = m + 1 := ⟨k - 1, by omega⟩
  have hj1 : yanklineref06_May.j0 (k + 1) s true = some false := by rw [yanklineref06_May.j0, if_pos rfl]
  rw [yanklineref06_May.f]
  by_cases h0 : s.size < 1
  · rw [if_pos (by omega), hj1]
    have : may s = false := by
      unfold may mayL
      rw [show decide (1 ≤ (LL s).length ∧ (LL s).length ≤ 64) = false from decide_eq_false (by show ¬ (1 ≤ s.data.toList.length ∧ s.data.toList.length ≤ 64); omega)]; rfl
    rw [this]
  rw [if_neg (by omega)]
  by_cases h64 : 64 < s.size
  · rw [if_pos (by omega), hj1]
    have : may s = false := by
      unfold may mayL
      rw [show decide (1 ≤ (LL s).length ∧ (LL s).length ≤ 64) = false from decide_eq_false (by show ¬ (1 ≤ s.data.toList.length ∧ s.data.toList.length ≤ 64); omega)]; rfl
    rw [this]
  have hp : 0 < s.size := by omega
  have hb : decide (1 ≤ (LL s).length ∧ (LL s).length ≤ 64) = true := decide_eq_true (by show 1 ≤ s.data.toList.length ∧ s.data.toList.length ≤ 64; omega)
  have hw : wrap64 ((s.size : Int) - 1) = ((s.size - 1 : Nat) : Int) := by unfold wrap64; omega
  rw [if_neg (by omega), if_pos (by omega), letter_eq, Option.bind_some, show bt s 0 = ((s[0]'hp).toNat : Int) from bt_nat s 0 hp, hw]
  have hm : may s = (s.data.toList.all okc && (hd1 s.data.toList && decide (lastk s.data.toList 0 = 1))) := by
    unfold may mayL; rw [hb, Bool.true_and]
  rw [hm, hd1_at s hp, lastk_at s hp]
  by_cases h1 : wk (s[0]'hp).toNat = 1
  · rw [if_pos (decide_eq_true h1), if_pos (by omega), if_pos (by omega), letter_eq, Option.bind_some, bt_nat s (s.size - 1) (by omega), decide_eq_true h1, Bool.true_and]
    by_cases h2 : wk (s[s.size - 1]'(by omega)).toNat = 1
    · rw [decide_eq_true h2, Bool.and_true, yanklineref06_May.j0, if_neg (by decide)]
      have := May_l s (by omega) s.size k 0 (by omega) (by omega) (by omega)
      rw [List.drop_zero] at this
      exact this
    · rw [decide_eq_false h2, Bool.and_false, yanklineref06_May.j0, if_pos (show (!false) = true from rfl)]
  · rw [if_neg (by rw [decide_eq_true_eq]; exact h1), hj1, decide_eq_false h1, Bool.false_and, Bool.and_false]

theorem one_low (c : UInt8) (_h : wk c.toNat = 1) : (strOfNums [wl c.toNat]).data.toList = [low c] := rfl
theorem app_data (a b : ByteArray) : (a ++ b).data.toList = a.data.toList ++ b.data.toList := by rw [ByteArray.data_append, Array.toList_append]
theorem app_size (a b : ByteArray) : (a ++ b).size = a.size + b.size := ByteArray.size_append

theorem form_l (s sg : ByteArray) (hs : s.size ≤ 64) (hg : sg.size ≤ 1) (d : Nat) : ∀ (k i : Nat) (out : ByteArray) (run : Bool), i ≤ s.size → s.size - i = d → d < k → out.size + 2 * d ≤ 1000 →
    ∃ r, yanklineref06_form.l0 k s sg out run (i : Int) = some r ∧ r.data.toList = out.data.toList ++ rform (LL sg) (s.data.toList.drop i) run := by
  induction d with
  | zero =>
    intro k i out run hi hd hk hb
    obtain ⟨k, rfl⟩ : ∃ m, k = m + 1 := ⟨k - 1, by omega⟩
    refine ⟨out, ?_, ?_⟩
    · rw [yanklineref06_form.l0, if_neg (by omega)]
    · rw [List.drop_eq_nil_of_le (by rw [size_len]; omega), rform, List.append_nil]
  | succ d ih =>
    intro k i out run hi hd hk hb
    obtain ⟨k, rfl⟩ : ∃ m, k = m + 1 := ⟨k - 1, by omega⟩
    have hlt : i < s.size := by omega
    rw [yanklineref06_form.l0, if_pos (by omega), if_pos (by omega), letter_eq, Option.bind_some, bt_nat s i hlt, wrap_nat i (by omega), drop_at s i hlt]
    generalize (s[i]'hlt) = c
    have hone : ∀ x : Int, (strOfNums [x]).size = 1 := fun x => by rw [strOfNums_size]; rfl
    by_cases h1 : wk c.toNat = 1
    · rw [if_pos (decide_eq_true h1)]
      have hcr := wk_wl _ h1
      have hv : (if (c.toNat : Int) ≥ 65 ∧ (c.toNat : Int) ≤ 90 then ((c.toNat : Int) + 32) % 256 else (c.toNat : Int)) = wl c.toNat := by
        unfold wl
        by_cases hb : 65 ≤ (c.toNat : Int) ∧ (c.toNat : Int) ≤ 90
        · rw [if_pos hb, if_pos (by omega)]; omega
        · rw [if_neg hb, if_neg (by omega)]
      have go : ∀ (o : ByteArray) (x : Int), x = wl c.toNat → o.size ≤ out.size + 1 → o.data.toList = out.data.toList ++ (if run = true then LL sg else []) → ∃ r, ((some ([x] : List Int)).bind fun y => if o.size + (strOfNums y).size ≤ 9223372036854775807 then yanklineref06_form.l0 k s sg (o ++ strOfNums y) false ((i + 1 : Nat) : Int) else none) = some r ∧ r.data.toList = out.data.toList ++ rform (LL sg) (c :: s.data.toList.drop (i + 1)) run := by
        intro o x hx ho hod
        subst hx
        rw [Option.bind_some, hone, if_pos (by omega)]
        obtain ⟨r, hr, hd2⟩ := ih k (i + 1) (o ++ strOfNums [wl c.toNat]) false (by omega) (by omega) (by omega) (by rw [app_size, hone]; omega)
        refine ⟨r, hr, ?_⟩
        rw [hd2, app_data, one_low c h1, hod, rform, if_pos h1]
        simp
      cases run with
      | true =>
        rw [if_pos rfl, if_pos (by omega)]
        have g1 : ∀ x : Int, x = wl c.toNat → _ := fun x hx => go (out ++ sg) x hx (by rw [app_size]; omega) (by rw [app_data, if_pos rfl])
        by_cases h65 : (c.toNat : Int) ≥ 65
        · rw [if_pos h65]
          by_cases h90 : (c.toNat : Int) ≤ 90
          · rw [if_pos h90]; exact g1 _ (by rw [← hv, if_pos ⟨h65, h90⟩])
          · rw [if_neg h90]; exact g1 _ (by rw [← hv, if_neg (fun hh => h90 hh.2)])
        · rw [if_neg h65]; exact g1 _ (by rw [← hv, if_neg (fun hh => h65 hh.1)])
      | false =>
        rw [if_neg (by decide)]
        have g1 : ∀ x : Int, x = wl c.toNat → _ := fun x hx => go out x hx (by omega) (by rw [if_neg (by decide), List.append_nil])
        by_cases h65 : (c.toNat : Int) ≥ 65
        · rw [if_pos h65]
          by_cases h90 : (c.toNat : Int) ≤ 90
          · rw [if_pos h90]; exact g1 _ (by rw [← hv, if_pos ⟨h65, h90⟩])
          · rw [if_neg h90]; exact g1 _ (by rw [← hv, if_neg (fun hh => h90 hh.2)])
        · rw [if_neg h65]; exact g1 _ (by rw [← hv, if_neg (fun hh => h65 hh.1)])
    · rw [if_neg (by rw [decide_eq_true_eq]; exact h1), rform, if_neg h1]
      exact ih k (i + 1) out true (by omega) (by omega) (by omega) (by omega)

theorem rform_eq (s sg : ByteArray) (hs : s.size ≤ 64) (hg : sg.size ≤ 1) (k : Nat) (hk : 70 ≤ k) : yanklineref06_form.f k s sg = some ⟨(rform (LL sg) (LL s) false).toArray⟩ := by
  obtain ⟨r, hr, hd⟩ := form_l s sg hs hg s.size k 0 (⟨#[]⟩ : ByteArray) false (by omega) (by omega) (by omega) (by show 0 + _ ≤ _; omega)
  rw [yanklineref06_form.f]
  rw [List.drop_zero] at hd
  exact hr.trans (congrArg some (ba_ext hd))

theorem may_size {s : ByteArray} (h : may s = true) : 1 ≤ s.size ∧ s.size ≤ 64 := by
  unfold may mayL at h
  rw [Bool.and_eq_true, decide_eq_true_eq] at h
  have h2 : (LL s).length = s.size := size_len s
  rw [h2] at h
  exact h.1

theorem RNorm_eq (a : ByteArray) (k : Nat) (hk : 70 ≤ k) : yanklineref06_Norm.f k a = some (if may a = true then (⟨(nm a).toArray⟩, 0) else (⟨#[]⟩, 60)) := by
  rw [yanklineref06_Norm.f, May_eq a k hk, Option.bind_some]
  by_cases h : may a = true
  · rw [if_pos h, if_pos h, rform_eq a (⟨#[45]⟩ : ByteArray) (may_size h).2 (by decide) k hk]; rfl
  · rw [if_neg h, if_neg h]
theorem RSquash_eq (a : ByteArray) (k : Nat) (hk : 70 ≤ k) : yanklineref06_Squash.f k a = some (if may a = true then (⟨(sq a).toArray⟩, 0) else (⟨#[]⟩, 60)) := by
  rw [yanklineref06_Squash.f, May_eq a k hk, Option.bind_some]
  by_cases h : may a = true
  · rw [if_pos h, if_pos h, rform_eq a (⟨#[]⟩ : ByteArray) (may_size h).2 (by decide) k hk]; rfl
  · rw [if_neg h, if_neg h]
theorem RIs_eq (a : ByteArray) (k : Nat) (hk : 70 ≤ k) : yanklineref06_Is.f k a = some (may a && decide (nm a = LL a)) := by
  rw [yanklineref06_Is.f, RNorm_eq a k hk, Option.bind_some]
  by_cases h : may a = true
  · rw [if_pos h, h, Bool.true_and]
    show (if (0 : Int) = 0 then some ((⟨(nm a).toArray⟩ : ByteArray).toList == a.toList) else some false) = _
    rw [if_pos rfl, ByteArray.toList_eq, ByteArray.toList_eq]
    exact congrArg some (beq_dec _ _)
  · rw [if_neg h, Bool.eq_false_iff.2 h, Bool.false_and]
    show (if (60 : Int) = 0 then _ else some false) = _
    rw [if_neg (by decide)]
theorem RSame_eq (a b : ByteArray) (k : Nat) (hk : 70 ≤ k) : yanklineref06_Same.f k a b = some (may a && (may b && decide (nm a = nm b))) := by
  rw [yanklineref06_Same.f, May_eq a k hk, Option.bind_some]
  by_cases h : may a = true
  · rw [if_pos h, May_eq b k hk, Option.bind_some]
    by_cases h2 : may b = true
    · rw [if_pos h2, rform_eq a (⟨#[45]⟩ : ByteArray) (may_size h).2 (by decide) k hk, rform_eq b (⟨#[45]⟩ : ByteArray) (may_size h2).2 (by decide) k hk, Option.bind_some, Option.bind_some, h, h2, ByteArray.toList_eq, ByteArray.toList_eq]
      exact congrArg some (beq_dec _ _)
    · rw [if_neg h2, Bool.eq_false_iff.2 h2, Bool.false_and, Bool.and_false]
  · rw [if_neg h, Bool.eq_false_iff.2 h, Bool.false_and]
theorem RLike_eq (a b : ByteArray) (k : Nat) (hk : 70 ≤ k) : yanklineref06_Like.f k a b = some (may a && (may b && (decide (sq a = sq b) && !decide (nm a = nm b)))) := by
  rw [yanklineref06_Like.f, May_eq a k hk, Option.bind_some]
  by_cases h : may a = true
  · rw [if_pos h, May_eq b k hk, Option.bind_some]
    by_cases h2 : may b = true
    · rw [if_pos h2, rform_eq a (⟨#[45]⟩ : ByteArray) (may_size h).2 (by decide) k hk, rform_eq b (⟨#[45]⟩ : ByteArray) (may_size h2).2 (by decide) k hk, Option.bind_some, Option.bind_some, h, h2, ByteArray.toList_eq, ByteArray.toList_eq,
        rform_eq a (⟨#[]⟩ : ByteArray) (may_size h).2 (by decide) k hk, rform_eq b (⟨#[]⟩ : ByteArray) (may_size h2).2 (by decide) k hk, Option.bind_some, Option.bind_some, ByteArray.toList_eq, ByteArray.toList_eq]
      show (if nm a = nm b then some false else some (sq a == sq b)) = _
      by_cases hn : nm a = nm b
      · rw [if_pos hn, decide_eq_true hn]; simp
      · rw [if_neg hn, decide_eq_false hn, beq_dec]; simp
    · rw [if_neg h2, Bool.eq_false_iff.2 h2, Bool.false_and, Bool.and_false]
  · rw [if_neg h, Bool.eq_false_iff.2 h, Bool.false_and]

/-! ### reserved names, holders, what the document fixes -/
def resN : List ByteArray := [(⟨#[121, 97, 110, 107, 108, 105, 110, 101]⟩ : ByteArray), (⟨#[114, 101, 103, 105, 115, 116, 114, 121]⟩ : ByteArray), (⟨#[105, 110, 100, 101, 120]⟩ : ByteArray), (⟨#[108, 111, 103]⟩ : ByteArray), (⟨#[112, 97, 103, 101]⟩ : ByteArray), (⟨#[98, 108, 111, 98]⟩ : ByteArray)]
def res (l : List UInt8) : Bool := resN.any fun x => decide (x.data.toList = l)
theorem getD_at (l : List ByteArray) (d : ByteArray) {i : Nat} (h : i < l.length) : l.getD i d = l[i]'h := by simp [h]
theorem rd_nat (l : List ByteArray) (i : Nat) : rdOf ByteArray.empty l (i : Int) = l.getD i ByteArray.empty := by unfold rdOf; rw [Int.toNat_natCast]

theorem Index_l (l : List ByteArray) (x : ByteArray) (hl : l.length ≤ 1000) (d : Nat) : ∀ (k i : Nat), i ≤ l.length → l.length - i = d → d < k →
    ∃ r, slices_Index_string_string.l0 k l x (l.length : Int) (i : Int) = some r ∧ (0 ≤ r ↔ (l.drop i).any (fun y => decide (y.data.toList = x.data.toList)) = true) := by
  induction d with
  | zero =>
    intro k i hi hd hk
    obtain ⟨k, rfl⟩ : ∃ m, k = m + 1 := ⟨k - 1, by omega⟩
    refine ⟨-1, ?_, ?_⟩
    · rw [slices_Index_string_string.l0, if_neg (by omega)]
    · rw [List.drop_eq_nil_of_le (by omega)]; simp
  | succ d ih =>
    intro k i hi hd hk
    obtain ⟨k, rfl⟩ : ∃ m, k = m + 1 := ⟨k - 1, by omega⟩
    have hlt : i < l.length := by omega
    rw [slices_Index_string_string.l0, if_pos (by omega), if_pos (by omega), if_pos (by omega), rd_nat, wrap_nat i (by omega), ByteArray.toList_eq, ByteArray.toList_eq, List.drop_eq_getElem_cons hlt, List.any_cons, getD_at _ _ hlt]
    by_cases h : x.data.toList = (l[i]'hlt).data.toList
    · rw [if_pos h, decide_eq_true h.symm]
      exact ⟨_, rfl, by simp⟩
    · rw [if_neg h, decide_eq_false (fun hh => h hh.symm), Bool.false_or]
      exact ih k (i + 1) (by omega) (by omega) (by omega)

theorem Reserved_eq (a : ByteArray) (k : Nat) (hk : 70 ≤ k) : name_Reserved.f k a = some (may a && res (sq a)) := by
  obtain ⟨x, hx, hv⟩ := form_eq a (⟨#[]⟩ : ByteArray) (by decide)
  rw [name_Reserved.f, hx, Option.bind_some]
  show (if may a = true then ((slices_Contains_string_string.f k resN x).bind fun t => some t) else some false) = _
  by_cases h : may a = true
  · obtain ⟨r, hr, h2⟩ := Index_l resN x (by decide) 6 k 0 (by decide) (by decide) (by omega)
    rw [if_pos h, slices_Contains_string_string.f, slices_Index_string_string.f]
    have hr' : slices_Index_string_string.l0 k resN x (resN.length : Int) 0 = some r := hr
    rw [hr', Option.bind_some, Option.bind_some, h, Bool.true_and]
    rw [hv h, List.drop_zero] at h2
    congr 1
    rw [Bool.eq_iff_iff, decide_eq_true_eq]
    exact h2
  · rw [if_neg h, Bool.eq_false_iff.2 h, Bool.false_and]

theorem RRes_l (l : List ByteArray) (x : ByteArray) (hl : l.length ≤ 1000) (d : Nat) : ∀ (k i : Nat), i ≤ l.length → l.length - i = d → d < k →
    yanklineref06_Reserved.l0 k x l (i : Int) = some ((l.drop i).any (fun y => decide (y.data.toList = x.data.toList))) := by
  induction d with
  | zero =>
    intro k i hi hd hk
    obtain ⟨k, rfl⟩ : ∃ m, k = m + 1 := ⟨k - 1, by omega⟩
    rw [yanklineref06_Reserved.l0, if_neg (by omega), List.drop_eq_nil_of_le (by omega)]; rfl
  | succ d ih =>
    intro k i hi hd hk
    obtain ⟨k, rfl⟩ : ∃ m, k = m + 1 := ⟨k - 1, by omega⟩
    have hlt : i < l.length := by omega
    rw [yanklineref06_Reserved.l0, if_pos (by omega), if_pos (by omega), rd_nat, wrap_nat i (by omega), ByteArray.toList_eq, ByteArray.toList_eq, List.drop_eq_getElem_cons hlt, List.any_cons, getD_at _ _ hlt]
    by_cases h : (l[i]'hlt).data.toList = x.data.toList
    · rw [if_pos h, decide_eq_true h]; rfl
    · rw [if_neg h, decide_eq_false h, Bool.false_or]
      exact ih k (i + 1) (by omega) (by omega) (by omega)
theorem RReserved_eq (a : ByteArray) (k : Nat) (hk : 70 ≤ k) : yanklineref06_Reserved.f k a = some (may a && res (sq a)) := by
  rw [yanklineref06_Reserved.f, RSquash_eq a k hk, Option.bind_some]
  by_cases h : may a = true
  · rw [if_pos h, h, Bool.true_and]
    show (if (0 : Int) = 0 then yanklineref06_Reserved.l0 k ⟨(sq a).toArray⟩ resN 0 else some false) = _
    rw [if_pos rfl]
    have := RRes_l resN ⟨(sq a).toArray⟩ (by decide) 6 k 0 (by decide) (by decide) (by omega)
    rw [List.drop_zero] at this
    exact this
  · rw [if_neg h, Bool.eq_false_iff.2 h, Bool.false_and]
    show (if (60 : Int) = 0 then _ else some false) = _
    rw [if_neg (by decide)]
end Go.Proofs.Ytililldgddgdcaa.Pure

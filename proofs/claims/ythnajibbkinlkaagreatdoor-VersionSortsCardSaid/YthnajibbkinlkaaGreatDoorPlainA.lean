/- The plain laws: total orders; lists of bytes cut at a byte; what a plain number says. -/
import Derived.Test.YthnajibbkinlkaaGreatDoorReadA
import Derived.Test.YthnajibbkinlkaaGreatDoorCompareA
import Derived.Lib.SplitLaws
import Derived.Lib.ItoaNum
namespace Go.Proofs.YthnajibbkinlkaaGreatDoor.PV
open Go.RowKit Go.Proofs.YthnajibbkinlkaaGreatDoorW.PrintWords Go.Proofs.YthnajibbkinlkaaGreatDoorW.PrintLast Go.Proofs.YthnajibbkinlkaaGreatDoorW.PrintMore
attribute [local go_sem] max2_int min2_int max_two min_two max_three min_three max_four min_four   -- for this text's walks alone
set_option linter.unusedVariables false
set_option linter.unusedSimpArgs false

/-! A total order, told as a comparison with three answers. -/
structure TO {α : Type} (c : α → α → Int) : Prop where
  anti : ∀ a b, c a b = - c b a
  zero : ∀ a b, c a b = 0 ↔ a = b
  trans : ∀ a b d, c a b ≤ 0 → c b d ≤ 0 → c a d ≤ 0
  bnd : ∀ a b, -1 ≤ c a b ∧ c a b ≤ 1
theorem TO.strict {α : Type} {c : α → α → Int} (h : TO c) {a b d : α} (h1 : c a b ≤ 0) (h2 : c b d ≤ 0) (hs : c a b < 0 ∨ c b d < 0) : c a d < 0 := by
  have h3 := h.trans a b d h1 h2
  rcases Int.lt_or_eq_of_le h3 with h4 | h4
  · exact h4
  · exfalso
    obtain rfl := (h.zero a d).1 h4
    have h5 := h.anti a b
    omega
def lex {α β : Type} (c : α → α → Int) (d : β → β → Int) (x y : α × β) : Int := if c x.1 y.1 ≠ 0 then c x.1 y.1 else d x.2 y.2
theorem TO.lex {α β : Type} {c : α → α → Int} {d : β → β → Int} (hc : TO c) (hd : TO d) : TO (lex c d) where
  anti x y := by
    unfold PV.lex
    have h1 := hc.anti x.1 y.1
    have h2 := hd.anti x.2 y.2
    by_cases h : c y.1 x.1 = 0
    · have h' : c x.1 y.1 = 0 := by omega
      rw [if_neg (by simpa using h'), if_neg (by simpa using h), h2]
    · have h' : c x.1 y.1 ≠ 0 := by omega
      rw [if_pos h', if_pos h, h1]
  zero x y := by
    unfold PV.lex
    by_cases h : c x.1 y.1 = 0
    · rw [if_neg (by simpa using h), hd.zero]
      have := (hc.zero _ _).1 h
      exact ⟨fun e => Prod.ext this e, fun e => by rw [e]⟩
    · rw [if_pos h]
      exact ⟨fun e => absurd e h, fun e => by rw [e]; exact (hc.zero _ _).2 rfl⟩
  trans x y z := by
    unfold PV.lex
    by_cases h1 : c x.1 y.1 = 0
    · have e1 := (hc.zero _ _).1 h1
      rw [if_neg (by simpa using h1), ← e1]
      by_cases h2 : c x.1 z.1 = 0
      · rw [if_neg (by simpa using h2), if_neg (by simpa using h2)]
        exact hd.trans _ _ _
      · rw [if_pos h2, if_pos h2]
        intro _ h; exact h
    · rw [if_pos h1]
      by_cases h2 : c y.1 z.1 = 0
      · have e2 := (hc.zero _ _).1 h2
        rw [if_neg (by simpa using h2), ← e2, if_pos h1]
        intro h _; exact h
      · rw [if_pos h2]
        intro ha hb
        have h3 : c x.1 z.1 < 0 := hc.strict ha hb (by omega)
        rw [if_pos (by omega)]
        omega
  bnd x y := by
    unfold PV.lex
    split
    · exact hc.bnd _ _
    · exact hd.bnd _ _
theorem TO.comap {α β : Type} {c : α → α → Int} (hc : TO c) (f : β → α) (hf : ∀ a b, f a = f b → a = b) : TO (fun x y => c (f x) (f y)) where
  anti x y := hc.anti _ _
  zero x y := by rw [hc.zero]; exact ⟨hf x y, fun e => by rw [e]⟩
  trans x y z := hc.trans _ _ _
  bnd x y := hc.bnd _ _
theorem to_cmp3 : TO cmp3 where
  anti a b := by unfold cmp3; split <;> split <;> (try split) <;> omega
  zero a b := by unfold cmp3; split <;> (try split) <;> omega
  bnd a b := by unfold cmp3; split <;> (try split) <;> omega
  trans a b d := by unfold cmp3; split <;> split <;> (try split) <;> (try split) <;> (try split) <;> omega
theorem less_irrefl : ∀ (a : List UInt8), Op.bytesLess a a = false := by
  intro a; induction a with
  | nil => rfl
  | cons x a ih => simp [Op.bytesLess, ih, UInt8.lt_irrefl]
theorem less_trans : ∀ (a b d : List UInt8), Op.bytesLess a b = true → Op.bytesLess b d = true → Op.bytesLess a d = true := by
  intro a
  induction a with
  | nil => intro b d _ h; cases b <;> cases d <;> simp_all [Op.bytesLess]
  | cons x a ih =>
    intro b d h1 h2
    cases b with
    | nil => simp [Op.bytesLess] at h1
    | cons y b =>
      cases d with
      | nil => simp [Op.bytesLess] at h2
      | cons z d =>
        simp only [Op.bytesLess, Bool.or_eq_true, Bool.and_eq_true, decide_eq_true_eq, beq_iff_eq, UInt8.lt_iff_toNat_lt] at *
        rcases h1 with h1 | ⟨rfl, h1⟩
        · rcases h2 with h2 | ⟨rfl, h2⟩
          · left; omega
          · left; exact h1
        · rcases h2 with h2 | ⟨rfl, h2⟩
          · left; exact h2
          · right; exact ⟨rfl, ih _ _ h1 h2⟩
theorem toL_inj {a b : ByteArray} (h : a.toList = b.toList) : a = b := by
  have h1 : a.toList = a.data.toList := by rw [ByteArray.toList_eq]
  have h2 : b.toList = b.data.toList := by rw [ByteArray.toList_eq]
  rw [h1, h2] at h
  cases a; cases b
  congr
  exact Array.toList_inj.1 h
theorem cmpB_less {a b : ByteArray} : cmpB a b < 0 ↔ Op.bytesLess a.toList b.toList = true := by
  unfold cmpB
  split
  · rename_i h; simp [h]
  · rename_i h
    simp only [h]
    split <;> simp
theorem to_cmpB : TO cmpB where
  bnd a b := by unfold cmpB; split <;> (try split) <;> omega
  anti a b := by
    have h1 := less_flip a.toList b.toList
    have h2 := less_flip b.toList a.toList
    unfold cmpB
    cases e1 : Op.bytesLess a.toList b.toList <;> cases e2 : Op.bytesLess b.toList a.toList <;> simp_all
  zero a b := by
    have h1 := less_flip a.toList b.toList
    unfold cmpB
    constructor
    · intro h
      apply toL_inj
      cases e1 : Op.bytesLess a.toList b.toList <;> cases e2 : Op.bytesLess b.toList a.toList <;> simp_all
    · rintro rfl
      simp [less_irrefl]
  trans a b d := by
    intro h1 h2
    have f1 := less_flip a.toList b.toList
    have f2 := less_flip b.toList d.toList
    have f3 := less_flip a.toList d.toList
    have t1 := less_trans a.toList b.toList d.toList
    have t2 := less_trans d.toList b.toList a.toList
    have t3 := less_trans d.toList a.toList b.toList
    have t4 := less_trans b.toList d.toList a.toList
    unfold cmpB at *
    cases e1 : Op.bytesLess a.toList b.toList <;> cases e2 : Op.bytesLess b.toList a.toList <;> cases e3 : Op.bytesLess b.toList d.toList <;> cases e4 : Op.bytesLess d.toList b.toList <;> cases e5 : Op.bytesLess a.toList d.toList <;> cases e6 : Op.bytesLess d.toList a.toList <;> simp_all
def ordK (s : ByteArray) : Int × Int × ByteArray := if digL s.data.toList = true then (0, (s.size : Int), s) else (1, 0, s)
theorem ordK_3 (s : ByteArray) : (ordK s).2.2 = s := by unfold ordK; split <;> rfl
theorem ordV_key (a b : ByteArray) : ordV a b = lex cmp3 (lex cmp3 cmpB) (ordK a) (ordK b) := by
  unfold ordV ordK
  cases digL a.data.toList <;> cases digL b.data.toList <;> simp [lex, cmp3]
theorem to_ordV : TO ordV := by
  have h : TO (fun x y => lex cmp3 (lex cmp3 cmpB) (ordK x) (ordK y)) := (to_cmp3.lex (to_cmp3.lex to_cmpB)).comap ordK (fun a b h => by rw [← ordK_3 a, h, ordK_3])
  have e : ordV = fun x y => lex cmp3 (lex cmp3 cmpB) (ordK x) (ordK y) := by funext a b; exact ordV_key a b
  rw [e]; exact h
theorem to_cmpL : TO cmpL where
  bnd a := by
    induction a with
    | nil => intro b; cases b <;> simp [cmpL]
    | cons x a ih =>
      intro b
      cases b with
      | nil => simp [cmpL]
      | cons y b =>
        simp only [cmpL]
        split
        · exact to_ordV.bnd _ _
        · exact ih b
  anti a := by
    induction a with
    | nil => intro b; cases b <;> simp [cmpL]
    | cons x a ih =>
      intro b
      cases b with
      | nil => simp [cmpL]
      | cons y b =>
        have h1 := to_ordV.anti x y
        simp only [cmpL]
        by_cases h : ordV y x = 0
        · rw [if_neg (by omega), if_neg (by omega)]; exact ih b
        · rw [if_pos (by omega), if_pos h, h1]
  zero a := by
    induction a with
    | nil => intro b; cases b <;> simp [cmpL]
    | cons x a ih =>
      intro b
      cases b with
      | nil => simp [cmpL]
      | cons y b =>
        simp only [cmpL, List.cons.injEq]
        by_cases h : ordV x y = 0
        · rw [if_neg (by omega), ih b]
          exact ⟨fun e => ⟨(to_ordV.zero _ _).1 h, e⟩, fun e => e.2⟩
        · rw [if_pos h]
          exact ⟨fun e => absurd e h, fun e => absurd ((to_ordV.zero _ _).2 e.1) h⟩
  trans a := by
    induction a with
    | nil => intro b d h1 h2; cases b <;> cases d <;> simp_all [cmpL]
    | cons x a ih =>
      intro b d h1 h2
      cases b with
      | nil => simp [cmpL] at h1
      | cons y b =>
        cases d with
        | nil => simp [cmpL] at h2
        | cons z d =>
          simp only [cmpL] at *
          by_cases e1 : ordV x y = 0
          · have := (to_ordV.zero _ _).1 e1
            subst this
            rw [if_neg (by simpa using e1)] at h1
            by_cases e2 : ordV x z = 0
            · rw [if_neg (by simpa using e2)] at h2 ⊢
              exact ih _ _ h1 h2
            · rw [if_pos e2] at h2 ⊢
              exact h2
          · rw [if_pos e1] at h1
            by_cases e2 : ordV y z = 0
            · have := (to_ordV.zero _ _).1 e2
              subst this
              rw [if_pos e1]
              exact h1
            · rw [if_pos e2] at h2
              have h3 : ordV x z < 0 := to_ordV.strict h1 h2 (by omega)
              rw [if_pos (by omega)]
              omega
def preK (l : List ByteArray) : Int × List ByteArray := (if l.length = 0 then 1 else 0, l)
def verK (a b c : Int) (l : List ByteArray) : Int × Int × Int × Int × List ByteArray := (a, b, c, preK l)
def verC := lex cmp3 (lex cmp3 (lex cmp3 (lex cmp3 cmpL)))
theorem to_verC : TO verC := to_cmp3.lex (to_cmp3.lex (to_cmp3.lex (to_cmp3.lex to_cmpL)))
theorem cmpV_key (a b c : Int) (l : List ByteArray) (a' b' c' : Int) (l' : List ByteArray) : cmpV a b c l a' b' c' l' = verC (verK a b c l) (verK a' b' c' l') := by
  have hp : (if l.length = 0 ∨ l'.length = 0 then cmp3 l'.length l.length else cmpL l l') = lex cmp3 cmpL (preK l) (preK l') := by
    unfold preK
    cases l <;> cases l' <;> simp [lex, cmp3, cmpL] <;> omega
  unfold cmpV cmpO verC verK
  rw [hp]
  simp only [lex]
  by_cases h1 : cmp3 a a' = 0 <;> by_cases h2 : cmp3 b b' = 0 <;> by_cases h3 : cmp3 c c' = 0 <;> simp [h1, h2, h3]
theorem verK_inj {a b c : Int} {l : List ByteArray} {a' b' c' : Int} {l' : List ByteArray} (h : verK a b c l = verK a' b' c' l') : a = a' ∧ b = b' ∧ c = c' ∧ l = l' := by
  simp only [verK, preK, Prod.mk.injEq] at h
  exact ⟨h.1, h.2.1, h.2.2.1, h.2.2.2.2⟩
/-! Lists of bytes, cut at a byte. -/
def splitL (c : UInt8) : List UInt8 → List (List UInt8)
  | [] => [[]]
  | b :: l => if b = c then [] :: splitL c l else match splitL c l with | [] => [[b]] | h :: t => (b :: h) :: t
def joinL (c : UInt8) : List (List UInt8) → List UInt8
  | [] => []
  | [x] => x
  | x :: y :: r => x ++ c :: joinL c (y :: r)
theorem splitL_ne (c : UInt8) (l : List UInt8) : splitL c l ≠ [] := by
  cases l with
  | nil => simp [splitL]
  | cons b l => simp only [splitL]; split <;> (try split) <;> simp
theorem join_split (c : UInt8) (l : List UInt8) : joinL c (splitL c l) = l := by
  induction l with
  | nil => rfl
  | cons b l ih =>
    simp only [splitL]
    have hne := splitL_ne c l
    split
    · rename_i h
      subst h
      cases hs : splitL b l with
      | nil => exact absurd hs hne
      | cons h t => rw [hs] at ih; simp only [joinL, List.nil_append, ih]
    · cases hs : splitL c l with
      | nil => exact absurd hs hne
      | cons h t =>
        rw [hs] at ih
        cases t with
        | nil => simp only [joinL] at ih ⊢; rw [ih]
        | cons y r => simp only [joinL] at ih ⊢; rw [← ih]; rfl
theorem split_none (c : UInt8) (l : List UInt8) (h : c ∉ l) : splitL c l = [l] := by
  induction l with
  | nil => rfl
  | cons b l ih =>
    simp only [List.mem_cons, not_or] at h
    simp only [splitL]
    rw [if_neg (fun e => h.1 e.symm), ih h.2]
theorem split_at (c : UInt8) (p q : List UInt8) (h : c ∉ p) : splitL c (p ++ c :: q) = p :: splitL c q := by
  induction p with
  | nil => simp [splitL]
  | cons b p ih =>
    simp only [List.mem_cons, not_or] at h
    rw [List.cons_append]
    simp only [splitL]
    rw [if_neg (fun e => h.1 e.symm), ih h.2]
theorem idx_cases (c : UInt8) : ∀ l : List UInt8, (Lib.indexByte l c = -1 ∧ c ∉ l) ∨ ∃ p q, l = p ++ c :: q ∧ c ∉ p ∧ Lib.indexByte l c = p.length := by
  intro l
  induction l with
  | nil => left; exact ⟨rfl, by simp⟩
  | cons b l ih =>
    by_cases h : b = c
    · right; subst h; exact ⟨[], l, rfl, by simp, by simp [Lib.indexByte]⟩
    · have hb : (b == c) = false := by simpa using h
      rcases ih with ⟨h1, h2⟩ | ⟨p, q, h1, h2, h3⟩
      · left
        refine ⟨by simp [Lib.indexByte, hb, h1], ?_⟩
        simp only [List.mem_cons, not_or]; exact ⟨fun e => h e.symm, h2⟩
      · right
        refine ⟨b :: p, q, by rw [h1]; rfl, ?_, ?_⟩
        · simp only [List.mem_cons, not_or]; exact ⟨fun e => h e.symm, h2⟩
        · simp only [Lib.indexByte, hb, h3]
          rw [if_neg (by simp), if_neg (by simp)]
          simp
theorem cut_cases (s : ByteArray) : (preB s = false ∧ (headB s).data.toList = s.data.toList ∧ (45 : UInt8) ∉ s.data.toList) ∨ (preB s = true ∧ s.data.toList = (headB s).data.toList ++ 45 :: (tailB s).data.toList) := by
  have hd : dash.data.toList = [45] := rfl
  unfold preB headB tailB
  rw [hd]
  unfold Lib.cut
  rw [Lib.index_one]
  rcases idx_cases 45 s.data.toList with ⟨h1, h2⟩ | ⟨p, q, h1, h2, h3⟩
  · left
    rw [h1, if_neg (by omega)]
    exact ⟨rfl, rfl, h2⟩
  · right
    rw [h3, if_pos (by omega)]
    refine ⟨rfl, ?_⟩
    simp only [Int.toNat_natCast, List.length_singleton]
    rw [h1]
    simp
theorem ba_ext {a b : ByteArray} (h : a.data.toList = b.data.toList) : a = b := by
  cases a; cases b; congr; exact Array.toList_inj.1 h
theorem cut_inj {s t : ByteArray} (h1 : preB s = preB t) (h2 : headB s = headB t) (h3 : preB s = true → tailB s = tailB t) : s = t := by
  apply ba_ext
  rcases cut_cases s with ⟨a1, a2, _⟩ | ⟨a1, a2⟩ <;> rcases cut_cases t with ⟨b1, b2, _⟩ | ⟨b1, b2⟩
  · rw [← a2, ← b2, h2]
  · rw [a1, b1] at h1; cases h1
  · rw [a1, b1] at h1; cases h1
  · rw [a2, b2, h2, h3 a1]
theorem extract_list (s : ByteArray) (a b : Nat) : (s.extract a b).data.toList = (s.data.toList.drop a).take (b - a) := by
  rw [ByteArray.data_extract, Array.toList_extract]
theorem splB_eq : ∀ (k : Nat) (s : ByteArray), Lib.countB s dot = k → (Lib.splitB dot 0 k s).map (·.data.toList) = splitL 46 s.data.toList := by
  intro k
  induction k with
  | zero =>
    intro s h
    rw [Lib.splitB_zero]
    have h1 : (46 : UInt8) ∉ s.data.toList := by
      have h2 : Lib.count s.data.toList [46] = 0 := h
      rw [Lib.count_one] at h2
      exact List.count_eq_zero.1 h2
    rw [split_none _ _ h1]
    rfl
  | succ k ih =>
    intro s h
    have hc : s.data.toList.count 46 = k + 1 := by rw [← Lib.count_one]; exact h
    unfold Lib.splitB
    have hi : Lib.indexB s dot = Lib.indexByte s.data.toList 46 := Lib.index_one _ _
    rcases idx_cases 46 s.data.toList with ⟨h1, h2⟩ | ⟨p, q, h1, h2, h3⟩
    · rw [List.count_eq_zero.2 h2] at hc; omega
    · rw [hi, h3, if_neg (by simp)]
      have e2 : (s.extract (((p.length : Nat) : Int).toNat + dot.size) s.size).data.toList = q := by
        rw [extract_list, Int.toNat_natCast]
        have hd : dot.size = 1 := rfl
        have hl : s.size = p.length + 1 + q.length := by rw [← size_len, h1]; simp; omega
        rw [hd, hl, h1]
        simp
      have e1 : (s.extract 0 (((p.length : Nat) : Int).toNat + 0)).data.toList = p := by
        rw [extract_list, Int.toNat_natCast, h1]
        simp
      have hq : Lib.countB (s.extract (((p.length : Nat) : Int).toNat + dot.size) s.size) dot = k := by
        show Lib.count (s.extract (((p.length : Nat) : Int).toNat + dot.size) s.size).data.toList [46] = k
        rw [e2, Lib.count_one]
        rw [h1, List.count_append, List.count_cons_self, List.count_eq_zero.2 h2] at hc
        omega
      rw [List.map_cons, ih _ hq, e2, e1, h1, split_at _ _ _ h2]
theorem spl_eq (s : ByteArray) : (spl s).map (·.data.toList) = splitL 46 s.data.toList := splB_eq _ s rfl
theorem spl_inj {s t : ByteArray} (h : spl s = spl t) : s = t := by
  apply ba_ext
  rw [← join_split 46 s.data.toList, ← join_split 46 t.data.toList, ← spl_eq, ← spl_eq, h]
theorem dec_snoc (r : List UInt8) (c : UInt8) : decV (r ++ [c]) = 10 * decV r + (c.toNat - 48) := by
  unfold decV; rw [List.foldl_append]; rfl
theorem dgc_bounds {c : UInt8} (h : dgc c = true) : 48 ≤ c.toNat ∧ c.toNat ≤ 57 := by
  unfold dgc at h; simp only [decide_eq_true_eq] at h; omega
theorem dec_pos (c : UInt8) (r : List UInt8) (h : dgc c = true) (hc : c ≠ 48) : 1 ≤ decV (c :: r) := by
  have h1 := dgc_bounds h
  have h2 : c.toNat ≠ 48 := fun e => hc (UInt8.toNat_inj.1 e)
  have h3 := fold_ge r (10 * 0 + (c.toNat - 48))
  have h4 : decV (c :: r) = r.foldl (fun n c => 10 * n + (c.toNat - 48)) (10 * 0 + (c.toNat - 48)) := rfl
  omega
theorem ofNat_digit {c : UInt8} (h : dgc c = true) (n : Nat) (hn : n = c.toNat - 48) : UInt8.ofNat (48 + n) = c := by
  have h1 := dgc_bounds h
  apply UInt8.toNat_inj.1
  rw [UInt8.toNat_ofNat']
  have := c.toNat_lt
  omega
theorem digits_back : ∀ (n : Nat) (l : List UInt8), l.length = n → l ≠ [] → l.all dgc = true → (l.length = 1 ∨ l.head? ≠ some 48) → Lib.decDigits (decV l) = l := by
  intro n
  induction n with
  | zero => intro l h hne; exact absurd (List.length_eq_zero_iff.1 h) hne
  | succ n ih =>
    intro l hl hne hd hp
    obtain ⟨r, c, rfl⟩ : ∃ r c, l = r ++ [c] := ⟨l.dropLast, l.getLast hne, (List.dropLast_concat_getLast hne).symm⟩
    rw [List.all_append, Bool.and_eq_true] at hd
    have hc : dgc c = true := by simpa using hd.2
    have hb := dgc_bounds hc
    rw [dec_snoc]
    cases r with
    | nil =>
      have : decV ([] : List UInt8) = 0 := rfl
      rw [this, Lib.decDigits_one (by omega), ofNat_digit hc _ (by omega)]
      rfl
    | cons b r =>
      have hp' : b ≠ 48 := by
        rcases hp with h | h
        · simp at h
        · intro e; apply h; simp [e]
      have hbd : dgc b = true := by
        have := hd.1
        simp only [List.all_cons, Bool.and_eq_true] at this
        exact this.1
      have h1 := dec_pos b r hbd hp'
      have h2 := ih (b :: r) (by simp at hl ⊢; omega) (by simp) hd.1 (.inr (by simpa using hp'))
      rw [Lib.decDigits, dif_neg (by omega)]
      have e1 : (10 * decV (b :: r) + (c.toNat - 48)) / 10 = decV (b :: r) := by omega
      have e2 : (10 * decV (b :: r) + (c.toNat - 48)) % 10 = c.toNat - 48 := by omega
      rw [e1, e2, h2, ofNat_digit hc _ rfl]
theorem num_back {x : ByteArray} {a : Int} (h : numV x = some a) : Lib.decDigits a.toNat = x.data.toList := by
  unfold numV at h
  split at h
  · rename_i hh
    have e := Option.some.inj h
    subst e
    have h1 := hh.1
    unfold numOk digL plainL at h1
    simp only [Bool.and_eq_true, Bool.or_eq_true, decide_eq_true_eq] at h1
    rw [Int.toNat_natCast]
    exact digits_back _ _ rfl h1.1.2 h1.1.1 h1.2.1
  · cases h
theorem num_inj {x y : ByteArray} {a : Int} (h1 : numV x = some a) (h2 : numV y = some a) : x = y := by
  apply ba_ext
  rw [← num_back h1, ← num_back h2]

end Go.Proofs.YthnajibbkinlkaaGreatDoor.PV

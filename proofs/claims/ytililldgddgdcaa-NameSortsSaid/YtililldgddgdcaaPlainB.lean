/- Plain laws on names, continued: holders, the answers that the document fixes, the one form of the one form. -/
import Derived.Test.YtililldgddgdcaaPlain
namespace Go.Proofs.Ytililldgddgdcaa.Pure
open Go.RowKit Go.Proofs.Ytililldgddgdcaa.PA Go.Proofs.YtililldgddgdcaaW.PrintWords Go.Proofs.YtililldgddgdcaaW.PrintLast

theorem alive_eq (k : Nat) (hk : 70 ≤ k) : yanklinelaw06_alive.f k = some true := by
  have h1 : name_Norm.f (⟨#[70, 111, 111, 95, 95, 66, 97, 114]⟩ : ByteArray) = some (⟨#[102, 111, 111, 45, 98, 97, 114]⟩, 0) := by decide +kernel
  have h2 : name_Norm.f (⟨#[45, 97]⟩ : ByteArray) = some (⟨#[]⟩, 60) := by decide +kernel
  have h3 : name_Like.f (⟨#[102, 111, 111, 98, 97, 114]⟩ : ByteArray) (⟨#[102, 111, 111, 45, 98, 97, 114]⟩ : ByteArray) = some true := by rw [Like_eq]; decide +kernel
  have h4 : name_Holder.f (⟨#[50, 97, 108, 105, 99, 101]⟩ : ByteArray) = some 61 := by decide +kernel
  have h5 : name_Reserved.f k (⟨#[89, 97, 110, 107, 45, 76, 105, 110, 101]⟩ : ByteArray) = some true := by rw [Reserved_eq _ k hk]; decide +kernel
  rw [yanklinelaw06_alive.f, h1, Option.bind_some, h2, Option.bind_some, h3, h5, h4]
  simp only [Option.bind_some, ByteArray.toList_eq]
  decide

theorem NameForms_law (a b : ByteArray) : yanklinelaw06_NameForms.f 70 a b = some true := by
  have hk : 70 ≤ 70 := Nat.le_refl _
  rw [yanklinelaw06_NameForms.f, Norm_eq, RNorm_eq a 70 hk, Squash_eq, RSquash_eq a 70 hk, Is_eq, RIs_eq a 70 hk, Same_eq, RSame_eq a b 70 hk, Like_eq, RLike_eq a b 70 hk, alive_eq 70 hk]
  simp only [Option.bind_some, if_true, beq_self_eq_true]

def holdB (a : ByteArray) : Bool := decide (1 ≤ a.size ∧ a.size ≤ 64) && ((a.data.toList.head?.all fun c => decide (97 ≤ c.toNat ∧ c.toNat ≤ 122)) && a.data.toList.all hok)
theorem head_at (s : ByteArray) (h : 0 < s.size) : s.data.toList.head? = some (s[0]'h) := by
  have := drop_at s 0 h
  rw [List.drop_zero] at this
  rw [this]; rfl
theorem Holder_eq (a : ByteArray) : name_Holder.f a = some (if holdB a = true then 0 else 61) := by
  unfold name_Holder.f holdB
  by_cases h : 1 ≤ a.size ∧ a.size ≤ 64
  · rw [dif_pos h, decide_eq_true h, Bool.true_and, head_at a (by omega)]
    by_cases h1 : 97 ≤ (a[0]'(by omega)).toNat ∧ (a[0]'(by omega)).toNat ≤ 122
    · by_cases h2 : a.data.toList.all hok = true
      · rw [if_pos ⟨h1.1, h1.2, h2⟩, if_pos (by rw [Option.all_some, decide_eq_true h1, h2]; rfl)]
      · rw [if_neg (fun hh => h2 hh.2.2), if_neg (fun hh => h2 (Bool.and_eq_true_iff.1 hh).2)]
    · rw [if_neg (fun hh => h1 ⟨hh.1, hh.2.1⟩), if_neg (fun hh => h1 (by have := (Bool.and_eq_true_iff.1 hh).1; rw [Option.all_some, decide_eq_true_eq] at this; exact this))]
  · rw [dif_neg h, decide_eq_false h, Bool.false_and, if_neg (by decide)]

theorem hok_iff (c : UInt8) : hok c = true ↔ ((97 ≤ (c.toNat : Int) ∧ (c.toNat : Int) ≤ 122) ∨ (48 ≤ (c.toNat : Int) ∧ (c.toNat : Int) ≤ 57)) := by
  unfold hok
  rw [decide_eq_true_eq]
  constructor
  · rintro ⟨h1, h2⟩
    unfold wk at h1
    unfold wl at h2
    split at h2
    · omega
    · split at h1
      · omega
      · split at h1 <;> omega
  · intro h
    constructor
    · unfold wk; rw [if_pos (by omega)]
    · unfold wl; rw [if_neg (by omega)]
theorem RHolder_l (s : ByteArray) (hs : s.size ≤ 64) (d : Nat) : ∀ (k i : Nat), i ≤ s.size → s.size - i = d → d < k → yanklineref06_Holder.l0 k s (i : Int) = some ((s.data.toList.drop i).all hok) := by
  induction d with
  | zero =>
    intro k i hi hd hk
    obtain ⟨k, rfl⟩ : ∃ m, k = m + 1 := ⟨k - 1, by omega⟩
    rw [yanklineref06_Holder.l0, if_neg (by omega), List.drop_eq_nil_of_le (by rw [size_len]; omega)]
    rfl
  | succ d ih =>
    intro k i hi hd hk
    obtain ⟨k, rfl⟩ : ∃ m, k = m + 1 := ⟨k - 1, by omega⟩
    have hlt : i < s.size := by omega
    have hr := ih k (i + 1) (by omega) (by omega) (by omega)
    rw [yanklineref06_Holder.l0, if_pos (by omega), if_pos (by omega), bt_nat s i hlt, wrap_nat i (by omega), hr, drop_at s i hlt, List.all_cons]
    generalize (s[i]'hlt) = c
    by_cases h : hok c = true
    · have h1 := (hok_iff c).1 h
      rw [h, Bool.true_and]
      rcases h1 with h1 | h1
      · rw [if_neg (by omega), if_neg (by omega)]
      · rw [if_pos (by omega), if_neg (by omega), if_neg (by omega)]
    · have h1 := mt (hok_iff c).2 h
      rw [Bool.eq_false_iff.2 h, Bool.false_and]
      by_cases h97 : (c.toNat : Int) < 97
      · rw [if_pos h97]
        by_cases h48 : (c.toNat : Int) < 48
        · rw [if_pos h48]
        · rw [if_neg h48, if_pos (by omega)]
      · rw [if_neg h97, if_pos (by omega), if_neg (by omega), if_pos (by omega)]
theorem RHolder_eq (a : ByteArray) (k : Nat) (hk : 70 ≤ k) : yanklineref06_Holder.f k a = some (holdB a) := by
  obtain ⟨k, rfl⟩ : ∃ m, k = m + 1 := ⟨k - 1, by omega⟩
  have hj1 : yanklineref06_Holder.j0 (k + 1) a true = some false := by rw [yanklineref06_Holder.j0, if_pos rfl]
  unfold holdB
  rw [yanklineref06_Holder.f]
  by_cases h0 : a.size < 1
  · rw [if_pos (by omega), hj1, show decide (1 ≤ a.size ∧ a.size ≤ 64) = false from decide_eq_false (by omega)]; rfl
  rw [if_neg (by omega)]
  by_cases h64 : 64 < a.size
  · rw [if_pos (by omega), hj1, show decide (1 ≤ a.size ∧ a.size ≤ 64) = false from decide_eq_false (by omega)]; rfl
  have hp : 0 < a.size := by omega
  rw [if_neg (by omega), if_pos (by omega), show decide (1 ≤ a.size ∧ a.size ≤ 64) = true from decide_eq_true (by omega), Bool.true_and, head_at a hp]
  have hb : bt a 0 = ((a[0]'hp).toNat : Int) := bt_nat a 0 hp
  simp only [Option.all_some]
  rw [hb]
  by_cases h97 : ((a[0]'hp).toNat : Int) < 97
  · rw [if_pos h97, hj1, decide_eq_false (by omega)]; rfl
  · rw [if_neg h97]
    by_cases h122 : ((a[0]'hp).toNat : Int) > 122
    · rw [decide_eq_true h122, hj1, decide_eq_false (by omega)]; rfl
    · rw [decide_eq_false h122, yanklineref06_Holder.j0, if_neg (by decide), decide_eq_true (by omega), Bool.true_and]
      have := RHolder_l a (by omega) a.size k 0 (by omega) (by omega) (by omega)
      rw [List.drop_zero] at this
      exact this

theorem NameHolders_law (a : ByteArray) : yanklinelaw06_NameHolders.f 70 a = some true := by
  have hk : 70 ≤ 70 := Nat.le_refl _
  rw [yanklinelaw06_NameHolders.f, Reserved_eq a 70 hk, RReserved_eq a 70 hk, Holder_eq, RHolder_eq a 70 hk, alive_eq 70 hk]
  simp only [Option.bind_some, beq_self_eq_true, if_true]
  cases holdB a <;> decide

/-! ### the one form of the one form -/
theorem rform_nil_run (l : List UInt8) (r r' : Bool) : rform [] l r = rform [] l r' := by
  induction l generalizing r r' with
  | nil => rfl
  | cons c l ih =>
    rw [rform, rform]
    by_cases h : wk c.toNat = 1
    · rw [if_pos h, if_pos h]; cases r <;> cases r' <;> rfl
    · rw [if_neg h, if_neg h]
theorem wk45 : wk ((45 : UInt8).toNat : Int) = 2 := by decide
theorem rform_sep (sg r : List UInt8) (run : Bool) : rform sg (45 :: r) run = rform sg r true := by
  rw [rform, if_neg (by rw [wk45]; decide)]
theorem sq_form (l : List UInt8) (run r' : Bool) : rform [] (rform [45] l run) r' = rform [] l false := by
  induction l generalizing run r' with
  | nil => rfl
  | cons c l ih =>
    rw [rform, rform]
    by_cases h : wk c.toNat = 1
    · have h2 := low_wk c h
      rw [if_pos h, if_pos h]
      cases run with
      | false => 
        rw [if_neg (by decide), List.nil_append, rform, if_pos h2, low_low c h, ih]
        cases r' <;> rfl
      | true =>
        rw [if_pos rfl, List.singleton_append, rform_sep, rform, if_pos h2, low_low c h, ih]
        rfl
    · rw [if_neg h, if_neg h, ih]; exact rform_nil_run _ _ _
theorem nm_form (l : List UInt8) (run : Bool) : rform [45] (rform [45] l run) false = rform [45] l run := by
  induction l generalizing run with
  | nil => rfl
  | cons c l ih =>
    rw [rform]
    by_cases h : wk c.toNat = 1
    · have h2 := low_wk c h
      rw [if_pos h]
      cases run with
      | false => rw [if_neg (by decide), List.nil_append, rform, if_pos h2, low_low c h, ih]; rfl
      | true => rw [if_pos rfl, List.singleton_append, rform_sep, rform, if_pos h2, low_low c h, ih]; rfl
    · rw [if_neg h, ih]
theorem len_form (l : List UInt8) (run : Bool) : (rform [45] l run).length ≤ l.length + (if run = true then 1 else 0) := by
  induction l generalizing run with
  | nil => rw [rform]; exact Nat.zero_le _
  | cons c l ih =>
    rw [rform]
    by_cases h : wk c.toNat = 1
    · rw [if_pos h]
      have := ih false
      rw [if_neg (by decide)] at this
      cases run
      · rw [if_neg (by decide), if_neg (by decide)]; simp only [List.nil_append, List.length_cons]; omega
      · rw [if_pos rfl, if_pos rfl]; simp only [List.singleton_append, List.length_cons]; omega
    · rw [if_neg h]
      have := ih true
      rw [if_pos rfl] at this
      simp only [List.length_cons]; omega
theorem okc_low (c : UInt8) (h : wk c.toNat = 1) : okc (low c) = true := (okc_iff _).2 (.inl (low_wk c h))
theorem ok_form (l : List UInt8) (run : Bool) : (rform [45] l run).all okc = true := by
  induction l generalizing run with
  | nil => rfl
  | cons c l ih =>
    rw [rform]
    by_cases h : wk c.toNat = 1
    · rw [if_pos h]
      cases run
      · rw [if_neg (by decide), List.nil_append, List.all_cons, okc_low c h, ih]; rfl
      · rw [if_pos rfl, List.singleton_append, List.all_cons, List.all_cons, okc_low c h, ih, show okc 45 = true from (okc_iff _).2 (.inr wk45)]; rfl
    · rw [if_neg h]; exact ih _
/-- The last kind of the form: a letter, if there is any, and what came last was one. -/
theorem last_form (l : List UInt8) (run : Bool) (a b : Int) (h : lastk l a = 1) (hb : l = [] → b = 1) : lastk (rform [45] l run) b = 1 := by
  induction l generalizing run a b with
  | nil => rw [rform, lastk]; exact hb rfl
  | cons c l ih =>
    rw [lastk] at h
    rw [rform]
    by_cases hc : wk c.toNat = 1
    · rw [if_pos hc]
      have := ih false (wk c.toNat) 1 h (fun _ => rfl)
      cases run
      · rw [if_neg (by decide), List.nil_append, lastk, low_wk c hc]; exact this
      · rw [if_pos rfl, List.singleton_append, lastk, lastk, low_wk c hc]; exact this
    · rw [if_neg hc]
      refine ih true (wk c.toNat) b h (fun hl => ?_)
      subst hl
      exact absurd h hc

theorem may_nm (a : ByteArray) (h : may a = true) : may ⟨(nm a).toArray⟩ = true := by
  have hs := may_size h
  have hl := size_len a
  unfold may mayL at h
  simp only [Bool.and_eq_true, decide_eq_true_eq] at h
  obtain ⟨_, h2, h3, h4⟩ := h
  have e : LL (⟨(nm a).toArray⟩ : ByteArray) = nm a := rfl
  unfold may mayL
  rw [e]
  unfold nm
  have hlen := len_form (LL a) false
  rw [if_neg (by decide)] at hlen
  have hlen2 : (LL a).length = a.size := hl
  generalize LL a = l at *
  cases l with
  | nil => simp [hd1] at h3
  | cons c r =>
    have hc : wk c.toNat = 1 := of_decide_eq_true h3
    have h5 := last_form (c :: r) false 0 0 h4 (fun hh => by cases hh)
    have h6 := ok_form (c :: r) false
    have h7 : 1 ≤ (rform [45] (c :: r) false).length := by
      rw [rform, if_pos hc, if_neg (by decide)]; simp
    have h8 : hd1 (rform [45] (c :: r) false) = true := by
      rw [rform, if_pos hc, if_neg (by decide), List.nil_append, hd1, decide_eq_true_eq]; exact low_wk c hc
    rw [h6, h8, decide_eq_true (show 1 ≤ (rform [45] (c :: r) false).length ∧ (rform [45] (c :: r) false).length ≤ 64 from ⟨h7, by omega⟩), decide_eq_true h5]
    rfl
theorem nm_nm (a : ByteArray) : nm ⟨(nm a).toArray⟩ = nm a := nm_form (LL a) false
theorem sq_nm (a : ByteArray) : sq ⟨(nm a).toArray⟩ = sq a := sq_form (LL a) false false
theorem sq_of (a b : ByteArray) (h : nm a = nm b) : sq a = sq b := by
  have h1 := sq_form (LL a) false false
  have h2 := sq_form (LL b) false false
  have h3 : rform [45] (LL a) false = rform [45] (LL b) false := h
  rw [h3] at h1
  exact h1.symm.trans h2

theorem NameOnce_law (a b c : ByteArray) : yanklinelaw06_NameOnce.f 74 a b c = some true := by
  have hk : 70 ≤ 74 := by omega
  rw [yanklinelaw06_NameOnce.f, Norm_eq, Option.bind_some]
  by_cases h : may a = true
  · rw [if_pos h]
    generalize hs : (⟨(nm a).toArray⟩ : ByteArray) = s
    have e1 : may s = true := by rw [← hs]; exact may_nm a h
    have e2 : nm s = nm a := by rw [← hs]; exact nm_nm a
    have e3 : sq s = sq a := by rw [← hs]; exact sq_nm a
    have e4 : LL s = nm a := by rw [← hs]
    have e5 : (⟨(nm s).toArray⟩ : ByteArray) = s := by rw [e2, hs]
    simp only [if_true]
    rw [Norm_eq, Option.bind_some, if_pos e1, e5]
    simp only [if_true]
    rw [Is_eq, Same_eq, Like_eq, Reserved_eq a 74 hk, Reserved_eq s 74 hk, e1, h, e2, e3, e4]
    simp only [Bool.true_and, decide_true, Bool.not_true, Bool.and_false, Option.bind_some, if_true, Bool.false_eq_true, if_false, bne_self_eq_false]
    rw [yanklinelaw06_NameOnce.j0, if_neg (by decide)]
    rw [Same_eq, Same_eq, Like_eq, Like_eq, Same_eq, Same_eq, h]
    simp only [Bool.true_and, Option.bind_some]
    have hsame : (may b && decide (nm a = nm b)) = (may b && (true && decide (nm b = nm a))) := by
      congr 1; rw [Bool.true_and]; exact decide_eq_decide.2 eq_comm
    have hlike : (may b && (decide (sq a = sq b) && !decide (nm a = nm b))) = (may b && (true && (decide (sq b = sq a) && !decide (nm b = nm a)))) := by
      congr 1; rw [Bool.true_and, decide_eq_decide.2 (@eq_comm _ (sq a) (sq b)), decide_eq_decide.2 (@eq_comm _ (nm a) (nm b))]
    simp only [Bool.true_and] at hsame hlike
    rw [← hsame, ← hlike]
    simp only [bne_self_eq_false, Bool.false_eq_true, if_false]
    have hfin : yanklinelaw06_NameOnce.j1 73 a b false = some true := by
      rw [yanklinelaw06_NameOnce.j1, if_neg (by decide), Same_eq, Like_eq, Reserved_eq a 72 (by omega), Reserved_eq b 72 (by omega), h]
      simp only [Bool.true_and, Option.bind_some]
      have hj2 : yanklinelaw06_NameOnce.j2 72 a b false = some true := by
        rw [yanklinelaw06_NameOnce.j2, if_neg (by decide), Same_eq, Like_eq, alive_eq 71 (by omega), h]
        simp only [Bool.true_and, Option.bind_some]
        by_cases hb : may b = true
        · by_cases hn : nm a = nm b
          · rw [hb, decide_eq_true hn]; simp
          · rw [hb, decide_eq_false hn]; simp
        · rw [Bool.eq_false_iff.2 hb]; simp
      by_cases hb : may b = true
      · rw [hb]
        simp only [Bool.true_and]
        by_cases hn : nm a = nm b
        · rw [if_pos (decide_eq_true hn), sq_of a b hn, bne_self_eq_false]; exact hj2
        · rw [if_neg (by rw [decide_eq_true_eq]; exact hn), decide_eq_false hn]
          by_cases hq : sq a = sq b
          · rw [hq, decide_eq_true rfl, bne_self_eq_false]; exact hj2
          · rw [decide_eq_false hq]; exact hj2
      · rw [Bool.eq_false_iff.2 hb]
        simp only [Bool.false_and, Bool.false_eq_true, if_false]
        exact hj2
    by_cases hb : may b = true
    · rw [hb]
      simp only [Bool.true_and]
      by_cases hn : nm a = nm b
      · rw [if_pos (decide_eq_true hn), hn]
        cases (may c && decide (nm b = nm c)) <;> simp [hfin]
      · rw [if_neg (by rw [decide_eq_true_eq]; exact hn)]; exact hfin
    · rw [Bool.eq_false_iff.2 hb]
      simp only [Bool.false_and, Bool.false_eq_true, if_false]
      exact hfin
  · rw [if_neg h]
    show (if (60 : Int) = 0 then _ else _) = _
    rw [if_neg (by decide), Same_eq, Like_eq, Reserved_eq a 74 hk, alive_eq 74 hk, Bool.eq_false_iff.2 h]
    simp
end Go.Proofs.Ytililldgddgdcaa.Pure

/- Plain: what a log's calls leave of its files; Open of it. -/
import Derived.Test.YtmceikfbgmcmaaaGreatDoorOpZ
import Derived.Test.YtmceikfbgmcmaaaGreatDoorRefA
namespace Go.Proofs.YtmceikfbgmcmaaaGreatDoor.D
open Go.RowKit Go.Extern.Stop Go.Stop Go.Extern Go.Proofs.YtmceikfbgmcmaaaGreatDoorW.PrintWords Go.Proofs.YtmceikfbgmcmaaaGreatDoorW.PrintLast Go.Proofs.YtmceikfbgmcmaaaGreatDoorW.PrintMore
set_option linter.unusedVariables false
set_option linter.unusedSimpArgs false
/-- The bytes of some records. -/
def bodyF (l : List BL) : BL := (l.map recF).flatten
theorem bodyF_nil : bodyF [] = [] := rfl
theorem bodyF_cons (p : BL) (r : List BL) : bodyF (p :: r) = recF p ++ bodyF r := by simp [bodyF]
theorem bodyF_append (a b : List BL) : bodyF (a ++ b) = bodyF a ++ bodyF b := by simp [bodyF]
theorem bodyF_one (p : BL) : bodyF [p] = recF p := by simp [bodyF]
theorem bodyF_len (l : List BL) : (bodyF l).length = usedF l := by
  induction l with
  | nil => rfl
  | cons p r ih => rw [bodyF_cons, List.length_append, recF_len, usedF_cons, ih]
theorem recs_body (l : List BL) (t : BL) (h : ∀ p ∈ l, p.length ≤ 131072) : recsF (bodyF l ++ t) = l ++ recsF t := by
  induction l with
  | nil => rfl
  | cons p r ih =>
    rw [bodyF_cons, List.append_assoc, recsF_ok (front_rec p _ (h p (by simp))), List.drop_left' (recF_len p), ih (fun q hq => h q (by simp [hq]))]
    rfl
theorem recs_part (x : BL) (n : Nat) (h : x.length ≤ 131072) (hn : n < (recF x).length) : recsF ((recF x).take n) = [] := recsF_bad (front_cut x n h hn)
theorem got_body (l : List BL) (t : BL) (h : ∀ p ∈ l, p.length ≤ 131072) (hl : l.length ≤ 64) (ht : recsF t = []) : got (mkB (bodyF l ++ t)) = l := by
  unfold got
  rw [tl_mkB, recs_body l t h, ht, List.append_nil, List.take_of_length_le hl]
theorem used_small (l : List BL) (h : ∀ p ∈ l, p.length ≤ 300) : usedF l ≤ 312 * l.length := by
  induction l with
  | nil => exact Nat.zero_le _
  | cons p r ih =>
    have h1 := h p (by simp)
    have h2 := ih (fun q hq => h q (by simp [hq]))
    rw [usedF_cons, List.length_cons]
    omega
/-- The files L are a log's: its records, behind them t. -/
structure Hold (L : FS) (recs : List BL) (ex : Bool) (t : BL) : Prop where
  ris : Ris L
  small : ∀ p ∈ recs, p.length ≤ 300
  few : recs.length ≤ 10000
  full : ∀ n, n < recs.length / 64 → lk L (fileF (n + 1)) = some (mkB (bodyF ((recs.drop (64 * n)).take 64)))
  last : lk L (fileF (recs.length / 64 + 1)) = if ex = true then some (mkB (bodyF (recs.drop (64 * (recs.length / 64))) ++ t)) else none
  no : ex = false → recs.drop (64 * (recs.length / 64)) = [] ∧ t = []
  names : ∀ q ∈ L, ∃ n, 1 ≤ n ∧ n ≤ recs.length / 64 + (if ex = true then 1 else 0) ∧ q.1 = fileF n
  sz : L.length ≤ recs.length / 64 + (if ex = true then 1 else 0)
theorem Hold.start : Hold [] [] false [] := by
  refine ⟨List.Pairwise.nil, fun p h => ?_, by decide, fun n h => ?_, rfl, fun _ => ⟨rfl, rfl⟩, fun q h => ?_, Nat.zero_le _⟩
  · cases h
  · simp at h
  · cases h
theorem Hold.small' {L : FS} {recs : List BL} {ex : Bool} {t : BL} (h : Hold L recs ex t) {l : List BL} (hl : ∀ p ∈ l, p ∈ recs) : ∀ p ∈ l, p.length ≤ 131072 := fun p hp => by
  have := h.small p (hl p hp)
  omega
theorem scan_hold {L : FS} {recs : List BL} {ex : Bool} {t : BL} (h : Hold L recs ex t) (ht : recsF t = []) : ∀ d n f, n + d = recs.length / 64 → d < f → scanF L f (n + 1) (recs.take (64 * n)) = (recs.length / 64 + (if ex = true then 1 else 0), recs, if t = [] then none else some (recs.length / 64 + 1, usedF (recs.drop (64 * (recs.length / 64))))) := by
  intro d
  induction d with
  | zero =>
    intro n f hn hf
    obtain ⟨f, rfl⟩ : ∃ f', f = f' + 1 := ⟨f - 1, by omega⟩
    obtain rfl : n = recs.length / 64 := by omega
    cases hex : ex with
    | false =>
      obtain ⟨h1, h2⟩ := h.no hex
      have hl : lk L (fileF (recs.length / 64 + 1)) = none := by rw [h.last, hex, if_neg (by decide)]
      rw [scan_none hl, h2, if_pos rfl, if_neg (by decide)]
      have : recs.take (64 * (recs.length / 64)) = recs := by
        have := List.take_append_drop (64 * (recs.length / 64)) recs
        rw [h1, List.append_nil] at this
        exact this
      rw [this]
      rfl
    | true =>
      have hl : lk L (fileF (recs.length / 64 + 1)) = some (mkB (bodyF (recs.drop (64 * (recs.length / 64))) ++ t)) := by rw [h.last, hex, if_pos rfl]
      have hlen : (recs.drop (64 * (recs.length / 64))).length < 64 := by rw [List.length_drop]; omega
      have hg := got_body (recs.drop (64 * (recs.length / 64))) t (h.small' fun p hp => List.mem_of_mem_drop hp) (by omega) ht
      have hs : (mkB (bodyF (recs.drop (64 * (recs.length / 64))) ++ t)).size = usedF (recs.drop (64 * (recs.length / 64))) + t.length := by rw [mkB_size, List.length_append, bodyF_len]
      by_cases h0 : t = []
      · have hz : t.length = 0 := by rw [h0]; rfl
        rw [scan_last hl (by rw [hg, hs, hz]; omega) (by rw [hg]; exact hlen), hg, List.take_append_drop, if_pos h0, if_pos rfl]
      · have hz : 0 < t.length := List.length_pos_iff.2 h0
        rw [scan_torn hl (by rw [hg, hs]; omega), hg, List.take_append_drop, if_neg h0, if_pos rfl]
  | succ d ih =>
    intro n f hn hf
    obtain ⟨f, rfl⟩ : ∃ f', f = f' + 1 := ⟨f - 1, by omega⟩
    have hl := h.full n (by omega)
    have hlen : ((recs.drop (64 * n)).take 64).length = 64 := by rw [List.length_take, List.length_drop]; omega
    have hg := got_body ((recs.drop (64 * n)).take 64) [] (h.small' fun p hp => List.mem_of_mem_drop (List.mem_of_mem_take hp)) (by omega) rfl
    rw [List.append_nil] at hg
    have hs : (mkB (bodyF ((recs.drop (64 * n)).take 64))).size = usedF ((recs.drop (64 * n)).take 64) := by rw [mkB_size, bodyF_len]
    rw [scan_next hl (by rw [hg, hs]; omega) (by rw [hg, hlen]; omega), hg, ← List.take_add, show 64 * n + 64 = 64 * (n + 1) by omega]
    exact ih (n + 1) f (by omega) (by omega)
theorem clean_nothing {n : Nat} : ∀ (K : List ByteArray) (s : St), (∀ k ∈ K, ¬ n < numberF k) → cleanF n s K = (s, none)
  | [], _, _ => rfl
  | k :: r, s, h => by rw [clean_skip (h k (by simp)), clean_nothing r s (fun q hq => h q (by simp [hq]))]
theorem Hold.enough {L : FS} {recs : List BL} {ex : Bool} {t : BL} (h : Hold L recs ex t) : recs.length / 64 ≤ L.length := by
  have := h.few
  refine files_le L _ (by omega) (fun j h1 h2 => ?_)
  have := h.full (j - 1) (by omega)
  rw [show j - 1 + 1 = j by omega] at this
  rw [this]
  rfl
theorem Hold.scan {L : FS} {recs : List BL} {ex : Bool} {t : BL} (h : Hold L recs ex t) (ht : recsF t = []) : scanF L (L.length + 1) 1 [] = (recs.length / 64 + (if ex = true then 1 else 0), recs, if t = [] then none else some (recs.length / 64 + 1, usedF (recs.drop (64 * (recs.length / 64))))) := by
  have := scan_hold h ht (recs.length / 64) 0 (L.length + 1) (by omega) (by have := h.enough; omega)
  rw [Nat.mul_zero, List.take_zero] at this
  exact this
theorem Hold.clean {recs : List BL} {ex : Bool} {t : BL} {s : St} (h : Hold s.L recs ex t) : cleanF (recs.length / 64 + (if ex = true then 1 else 0)) s (s.L.map (·.1)) = (s, none) := by
  refine clean_nothing _ _ (fun k hk => ?_)
  obtain ⟨q, hq, rfl⟩ := List.mem_map.1 hk
  obtain ⟨n, h1, h2, h3⟩ := h.names q hq
  have h4 := h.few
  have h5 : n < 100000000 := by split at h2 <;> omega
  show ¬ _ < numberF q.1
  rw [h3, number_file n h5]
  omega
/-- Open of a whole log: nothing is written. -/
theorem open_whole {recs : List BL} {ex : Bool} {s : St} (hd : s.dead = false) (h : Hold s.L recs ex []) : openF s = (s, some recs, 0, ⟨#[]⟩) := by
  have h1 := h.scan rfl
  rw [if_pos rfl] at h1
  have h2 := h.clean
  obtain ⟨n, hn⟩ : ∃ n, recs.length / 64 + (if ex = true then 1 else 0) = n := ⟨_, rfl⟩
  rw [hn] at h1 h2
  unfold openF
  rw [hd, if_neg (by decide), h1]
  simp only [h2]
theorem lay_hold {L : FS} {recs : List BL} {t u : BL} (h : Hold L recs true t) : Hold (lay L (fileF (recs.length / 64 + 1)) (mkB (bodyF (recs.drop (64 * (recs.length / 64))) ++ u))) recs true u := by
  have hf := h.few
  refine ⟨lay_ris _ _ _ h.ris, h.small, h.few, fun n hn => ?_, ?_, (fun e => by cases e), fun q hq => ?_, ?_⟩
  · rw [lk_lay_other _ _ _ _ (fun e => by have := fileF_inj (by omega) (by omega) e; omega)]
    exact h.full n hn
  · rw [lk_lay_same, if_pos rfl]
  · rcases mem_lay _ _ _ _ hq with rfl | hq
    · exact ⟨_, by omega, by rw [if_pos rfl]; omega, rfl⟩
    · exact h.names q hq
  · rw [lay_len _ _ _ h.ris, h.last, if_pos rfl]
    exact h.sz
/-- Open of a torn log. -/
theorem open_torn {recs : List BL} {t : BL} {s : St} (hd : s.dead = false) (h : Hold s.L recs true t) (ht : recsF t = []) (h0 : t ≠ []) : (rawOk s → ∃ s', openF s = (s', some recs, 0, ⟨#[]⟩) ∧ s'.dead = false ∧ Hold s'.L recs true []) ∧ (¬ rawOk s → ∃ k, openF s = ({ s with dead := true }, none, 5, k)) := by
  have h1 := h.scan ht
  rw [if_neg h0] at h1
  have h2 := h.clean
  obtain ⟨n, hn⟩ : ∃ n, recs.length / 64 + (if true = true then 1 else 0) = n := ⟨_, rfl⟩
  rw [hn] at h1 h2
  have hl : lk s.L (fileF (recs.length / 64 + 1)) = some (mkB (bodyF (recs.drop (64 * (recs.length / 64))) ++ t)) := by rw [h.last, if_pos rfl]
  obtain ⟨h3, h4⟩ := there_some hd hl
  have h5 : ¬ ((((usedF (recs.drop (64 * (recs.length / 64))) : Nat) : Int)) < 0 ∨ ((lkD s.L (fileF (recs.length / 64 + 1))).size : Int) < ((usedF (recs.drop (64 * (recs.length / 64))) : Nat) : Int)) := by
    rw [h4, mkB_size, List.length_append, bodyF_len]
    omega
  have ho : openF s = if (truncF s (fileF (recs.length / 64 + 1)) ((usedF (recs.drop (64 * (recs.length / 64))) : Nat) : Int)).2 = 0 then ((truncF s (fileF (recs.length / 64 + 1)) ((usedF (recs.drop (64 * (recs.length / 64))) : Nat) : Int)).1, some recs, 0, ⟨#[]⟩) else ((truncF s (fileF (recs.length / 64 + 1)) ((usedF (recs.drop (64 * (recs.length / 64))) : Nat) : Int)).1, none, (truncF s (fileF (recs.length / 64 + 1)) ((usedF (recs.drop (64 * (recs.length / 64))) : Nat) : Int)).2, fileF (recs.length / 64 + 1)) := by
    unfold openF
    rw [hd, if_neg (by decide), h1]
    simp only [h2]
  refine ⟨fun hr => ?_, fun hr => ?_⟩
  · rw [ho, truncF_yes h3 h5 hr, if_pos rfl]
    refine ⟨_, rfl, hd, ?_⟩
    have := lay_hold (u := []) h
    rw [List.append_nil] at this
    have e : (mkB (bodyF (recs.drop (64 * (recs.length / 64))) ++ t)).extract 0 ((usedF (recs.drop (64 * (recs.length / 64))) : Nat) : Int).toNat = mkB (bodyF (recs.drop (64 * (recs.length / 64)))) := by
      apply tl_inj
      rw [tl_extract, tl_mkB, tl_mkB, List.drop_zero, Int.toNat_natCast, ← bodyF_len, List.take_left]
    show Hold (lay s.L _ ((lkD s.L _).extract 0 _)) recs true []
    rw [h4, e]
    exact this
  · rw [ho, truncF_no h3 h5 hr, if_neg (by show ¬ (5 : Nat) = 0; decide)]
    exact ⟨_, rfl⟩
/-- L' is L with v under that name. -/
structure Lays (L L' : FS) (name v : ByteArray) : Prop where
  ris : Ris L'
  at_ : lk L' name = some v
  other : ∀ j, j ≠ name → lk L' j = lk L j
  names : ∀ q ∈ L', q.1 = name ∨ ∃ q' ∈ L, q'.1 = q.1
  len : L'.length ≤ if (lk L name).isSome = true then L.length else L.length + 1
theorem Lays.one {L : FS} (h : Ris L) (name v : ByteArray) : Lays L (lay L name v) name v :=
  ⟨lay_ris _ _ _ h, lk_lay_same _ _ _, fun j hj => lk_lay_other _ _ _ _ hj, fun q hq => by
    rcases mem_lay _ _ _ _ hq with rfl | hq
    · exact .inl rfl
    · exact .inr ⟨q, hq, rfl⟩, by rw [lay_len _ _ _ h]; exact Nat.le_refl _⟩
theorem Lays.trans {L L1 L2 : FS} {name v v' : ByteArray} (h : Lays L L1 name v) (k : Lays L1 L2 name v') : Lays L L2 name v' :=
  ⟨k.ris, k.at_, fun j hj => (k.other j hj).trans (h.other j hj), fun q hq => by
    rcases k.names q hq with e | ⟨q', hq', e⟩
    · exact .inl e
    · rcases h.names q' hq' with e' | ⟨q2, hq2, e'⟩
      · exact .inl (e.symm.trans e')
      · exact .inr ⟨q2, hq2, e'.trans e⟩, by
    have h1 := k.len
    rw [h.at_] at h1
    exact Nat.le_trans h1 h.len⟩
theorem Lays.d {L L' : FS} {name v : ByteArray} (h : Lays L L' name v) : lkD L' name = v := by unfold lkD; rw [h.at_]; rfl
theorem ext_split (a r : ByteArray) (n : Nat) (h : n ≤ r.size) : (a ++ r.extract 0 n) ++ r.extract n r.size = a ++ r := by
  apply tl_inj
  rw [tl_append, tl_append, tl_append, tl_extract, tl_extract, List.drop_zero, List.append_assoc]
  congr 1
  rw [← tl_size, List.take_of_length_le (Nat.le_refl _), List.take_append_drop]
theorem ext_part (a r : ByteArray) (n k : Nat) (h : n + k ≤ r.size) : (a ++ r.extract 0 n) ++ (r.extract n r.size).extract 0 k = a ++ r.extract 0 (n + k) := by
  apply tl_inj
  rw [tl_append, tl_append, tl_append, tl_extract, tl_extract, tl_extract, tl_extract, List.drop_zero, List.drop_zero, List.drop_zero, List.append_assoc]
  congr 1
  rw [← tl_size, List.take_of_length_le (Nat.le_refl _), List.take_add]
/-- What pieces leave of a file. -/
theorem add_ways (name : ByteArray) : ∀ (k : Nat) (s : St) (r : ByteArray), r.size < k → 0 < r.size → s.dead = false → Ris s.L →
    (∃ s', addF s name r = (s', true) ∧ s'.dead = false ∧ s'.cut = s.cut ∧ Lays s.L s'.L name (lkD s.L name ++ r)) ∨
    (∃ s', addF s name r = (s', false) ∧ s'.dead = true ∧ ¬ s.cut < 0 ∧ (s'.L = s.L ∨ ∃ n, 0 < n ∧ n < r.size ∧ Lays s.L s'.L name (lkD s.L name ++ r.extract 0 n)))
  | 0, s, r, h, _, _, _ => absurd h (by omega)
  | k + 1, s, r, h, h0, hd, hR => by
    by_cases hr : rawOk s
    · by_cases h2 : r.size ≤ 32
      · rw [addF_last hr h2]
        exact .inl ⟨_, rfl, hd, rfl, Lays.one hR _ _⟩
      · rw [addF_more hr h2]
        have hl : Lays s.L (pieceS s name (r.extract 0 32)).L name (lkD s.L name ++ r.extract 0 32) := Lays.one hR _ _
        have hsz : (r.extract 32 r.size).size = r.size - 32 := by rw [ByteArray.size_extract]; omega
        rcases add_ways name k (pieceS s name (r.extract 0 32)) (r.extract 32 r.size) (by omega) (by omega) hd hl.ris with ⟨s', e, h3, h4, h5⟩ | ⟨s', e, h3, h4, h5⟩
        · refine .inl ⟨s', e, h3, h4, ?_⟩
          rw [hl.d, ext_split _ _ _ (by omega)] at h5
          exact hl.trans h5
        · refine .inr ⟨s', e, h3, h4, .inr ?_⟩
          rcases h5 with h5 | ⟨n, h5, h6, h7⟩
          · refine ⟨32, by decide, by omega, ?_⟩
            rw [h5]
            exact hl
          · refine ⟨32 + n, by omega, by omega, ?_⟩
            rw [hl.d, ext_part _ _ _ _ (by omega)] at h7
            exact hl.trans h7
    · rw [addF_dead hr]
      refine .inr ⟨_, rfl, rfl, fun hc => hr ?_, .inl rfl⟩
      unfold rawOk
      omega
theorem lk_none_of {L : FS} {k : ByteArray} (h : ∀ q ∈ L, q.1 ≠ k) : lk L k = none := by
  cases e : lk L k with
  | none => rfl
  | some v =>
    obtain ⟨p, hp, e2⟩ := (lk_some_iff L k).1 (by rw [e]; rfl)
    exact absurd e2 (h p hp)
theorem Hold.lkd {L : FS} {recs : List BL} {ex : Bool} (h : Hold L recs ex []) : lkD L (fileF (recs.length / 64 + 1)) = mkB (bodyF (recs.drop (64 * (recs.length / 64)))) := by
  unfold lkD
  rw [h.last]
  cases hex : ex with
  | true => rw [if_pos rfl, List.append_nil]; rfl
  | false => rw [if_neg (by decide), (h.no hex).1]; rfl
theorem Hold.app {L L' : FS} {recs : List BL} {ex : Bool} {x : BL} (h : Hold L recs ex []) (hx : x.length ≤ 300) (hn : recs.length < 10000) (hl : Lays L L' (fileF (recs.length / 64 + 1)) (mkB (bodyF (recs.drop (64 * (recs.length / 64))) ++ recF x))) : ∃ ex', Hold L' (recs ++ [x]) ex' [] := by
  have hlen : (recs ++ [x]).length = recs.length + 1 := by rw [List.length_append]; rfl
  have hdr : (recs ++ [x]).drop (64 * (recs.length / 64)) = recs.drop (64 * (recs.length / 64)) ++ [x] := List.drop_append_of_le_length (by omega)
  have hsm : ∀ p ∈ recs ++ [x], p.length ≤ 300 := fun p hp => by
    rcases List.mem_append.1 hp with q | q
    · exact h.small p q
    · rw [List.mem_singleton.1 q]; exact hx
  have hfull : ∀ n, n < recs.length / 64 → lk L' (fileF (n + 1)) = some (mkB (bodyF (((recs ++ [x]).drop (64 * n)).take 64))) := fun n q => by
    rw [hl.other _ (fun e => by have := fileF_inj (by omega) (by omega) e; omega), h.full n q, List.drop_append_of_le_length (by omega), List.take_append_of_le_length (by rw [List.length_drop]; omega)]
  have hnm : ∀ q ∈ L', ∃ n, 1 ≤ n ∧ n ≤ recs.length / 64 + 1 ∧ q.1 = fileF n := fun q hq => by
    rcases hl.names q hq with e | ⟨q', hq', e⟩
    · exact ⟨_, by omega, Nat.le_refl _, e⟩
    · obtain ⟨n, h1, h2, h3⟩ := h.names q' hq'
      refine ⟨n, h1, ?_, e.symm.trans h3⟩
      split at h2 <;> omega
  have hsz : L'.length ≤ recs.length / 64 + 1 := by
    have h1 := hl.len
    have h2 := h.sz
    rw [h.last] at h1
    cases hex : ex with
    | true => simp [hex] at h1 h2; omega
    | false => simp [hex] at h1 h2; omega
  by_cases hm : (recs.length + 1) % 64 = 0
  · have hm1 : (recs.length + 1) / 64 = recs.length / 64 + 1 := by omega
    refine ⟨false, hl.ris, hsm, by omega, fun n q => ?_, ?_, fun _ => ⟨?_, rfl⟩, fun q hq => ?_, ?_⟩
    · rw [hlen, hm1] at q
      by_cases hq : n < recs.length / 64
      · exact hfull n hq
      · obtain rfl : n = recs.length / 64 := by omega
        rw [hl.at_, hdr, List.take_of_length_le (by rw [List.length_append, List.length_drop]; simp; omega), bodyF_append, bodyF_one]
    · rw [hlen, hm1, if_neg (by decide)]
      refine lk_none_of (fun q hq e => ?_)
      obtain ⟨n, h1, h2, h3⟩ := hnm q hq
      have := fileF_inj (by omega) (by omega) (h3.symm.trans e)
      omega
    · rw [hlen, hm1, List.drop_eq_nil_of_le (by rw [hlen]; omega)]
    · obtain ⟨n, h1, h2, h3⟩ := hnm q hq
      exact ⟨n, h1, by rw [hlen, hm1, if_neg (by decide)]; omega, h3⟩
    · rw [hlen, hm1, if_neg (by decide)]
      omega
  · have hm1 : (recs.length + 1) / 64 = recs.length / 64 := by omega
    refine ⟨true, hl.ris, hsm, by omega, fun n q => ?_, ?_, (fun e => by cases e), fun q hq => ?_, ?_⟩
    · rw [hlen, hm1] at q
      exact hfull n q
    · rw [hlen, hm1, if_pos rfl, hdr, hl.at_, List.append_nil, bodyF_append, bodyF_one]
    · obtain ⟨n, h1, h2, h3⟩ := hnm q hq
      exact ⟨n, h1, by rw [hlen, hm1, if_pos rfl]; omega, h3⟩
    · rw [hlen, hm1, if_pos rfl]
      omega
theorem Hold.torn {L L' : FS} {recs : List BL} {ex : Bool} {t : BL} (h : Hold L recs ex []) (hl : Lays L L' (fileF (recs.length / 64 + 1)) (mkB (bodyF (recs.drop (64 * (recs.length / 64))) ++ t))) : Hold L' recs true t := by
  have hf := h.few
  refine ⟨hl.ris, h.small, h.few, fun n q => ?_, ?_, (fun e => by cases e), fun q hq => ?_, ?_⟩
  · rw [hl.other _ (fun e => by have := fileF_inj (by omega) (by omega) e; omega)]
    exact h.full n q
  · rw [hl.at_, if_pos rfl]
  · rcases hl.names q hq with e | ⟨q', hq', e⟩
    · exact ⟨_, by omega, by rw [if_pos rfl]; omega, e⟩
    · obtain ⟨n, h1, h2, h3⟩ := h.names q' hq'
      refine ⟨n, h1, ?_, e.symm.trans h3⟩
      rw [if_pos rfl]
      split at h2 <;> omega
  · have h1 := hl.len
    have h2 := h.sz
    rw [h.last] at h1
    rw [if_pos rfl]
    cases hex : ex with
    | true => simp [hex] at h1 h2; omega
    | false => simp [hex] at h1 h2; omega
/-- A record, appended to a log's files. -/
theorem app_hold {recs : List BL} {ex : Bool} {s : St} (x : ByteArray) (hd : s.dead = false) (h : Hold s.L recs ex []) (hx : x.size ≤ 300) (hn : recs.length < 10000) :
    (∃ s', appG s recs false x = (s', recs ++ [tl x], false, 0, ⟨#[]⟩) ∧ s'.dead = false ∧ s'.cut = s.cut ∧ ∃ ex', Hold s'.L (recs ++ [tl x]) ex' []) ∨
    (∃ s' nm, appG s recs false x = (s', recs, true, 5, nm) ∧ s'.dead = true ∧ ¬ s.cut < 0 ∧ ∃ ex' t, Hold s'.L recs ex' t ∧ recsF t = []) := by
  have hk := h.lkd
  have hu := used_small (recs.drop (64 * (recs.length / 64))) (fun p hp => h.small p (List.mem_of_mem_drop hp))
  have hdl : (recs.drop (64 * (recs.length / 64))).length < 64 := by rw [List.length_drop]; omega
  have hsz := h.sz
  have hx1 : (tl x).length ≤ 300 := by rw [tl_size]; exact hx
  have hrs : (mkB (recF (tl x))).size = 12 + (tl x).length := by rw [mkB_size, recF_len]
  have hab : appendF s (fileF (recs.length / 64 + 1)) (mkB (recF (tl x))) = ((addF s (fileF (recs.length / 64 + 1)) (mkB (recF (tl x)))).1, if (addF s (fileF (recs.length / 64 + 1)) (mkB (recF (tl x)))).2 = true then 0 else 5) := by
    unfold appendF
    rw [if_neg (by rw [able_file s _ hd]; decide), if_pos]
    unfold roomB
    rw [hk, mkB_size, hrs, bodyF_len, decide_eq_true (by omega), decide_eq_true (p := s.L.length < 65536) (by split at hsz <;> omega)]
    simp
  have hA : appG s recs false x = if (appendF s (fileF (recs.length / 64 + 1)) (mkB (recF (tl x)))).2 = 0 then ((appendF s (fileF (recs.length / 64 + 1)) (mkB (recF (tl x)))).1, recs ++ [tl x], false, 0, ⟨#[]⟩) else ((appendF s (fileF (recs.length / 64 + 1)) (mkB (recF (tl x)))).1, recs, decide ((appendF s (fileF (recs.length / 64 + 1)) (mkB (recF (tl x)))).2 = 5), (appendF s (fileF (recs.length / 64 + 1)) (mkB (recF (tl x)))).2, fileF (recs.length / 64 + 1)) := by
    unfold appG
    rw [if_neg (by decide), if_neg (by omega)]
  have hlist : ∀ (r : BL), mkB (bodyF (recs.drop (64 * (recs.length / 64)))) ++ mkB r = mkB (bodyF (recs.drop (64 * (recs.length / 64))) ++ r) := fun r => tl_inj (by rw [tl_append, tl_mkB, tl_mkB, tl_mkB])
  rcases add_ways (fileF (recs.length / 64 + 1)) _ s (mkB (recF (tl x))) (Nat.lt_succ_self _) (by omega) hd h.ris with ⟨s', e, h1, h2, h3⟩ | ⟨s', e, h1, h2, h3⟩
  · left
    rw [e] at hab
    rw [hab] at hA
    rw [hk, hlist] at h3
    exact ⟨s', hA, h1, h2, h.app hx1 hn h3⟩
  · right
    rw [e] at hab
    rw [hab] at hA
    refine ⟨s', _, hA, h1, h2, ?_⟩
    rcases h3 with h3 | ⟨n, h4, h5, h6⟩
    · rw [h3]
      exact ⟨ex, [], h, rfl⟩
    · have e2 : (mkB (recF (tl x))).extract 0 n = mkB ((recF (tl x)).take n) := tl_inj (by rw [tl_extract, tl_mkB, tl_mkB, List.drop_zero])
      rw [hk, e2, hlist] at h6
      exact ⟨true, _, h.torn h6, recs_part _ _ (by omega) (by rw [mkB_size] at h5; exact h5)⟩
/-- Open of what a log's calls leave. -/
theorem open_hold {recs : List BL} {ex : Bool} {t : BL} {s : St} (hd : s.dead = false) (h : Hold s.L recs ex t) (ht : recsF t = []) :
    (∃ s' ex', openF s = (s', some recs, 0, ⟨#[]⟩) ∧ s'.dead = false ∧ Hold s'.L recs ex' [] ∧ (t = [] → s' = s)) ∨ (∃ k, openF s = ({ s with dead := true }, none, 5, k) ∧ ¬ s.cut < 0) := by
  by_cases h0 : t = []
  · subst h0
    exact .inl ⟨s, ex, open_whole hd h, hd, h, fun _ => rfl⟩
  · cases hex : ex with
    | false => exact absurd (h.no hex).2 h0
    | true =>
      subst hex
      obtain ⟨h1, h2⟩ := open_torn hd h ht h0
      by_cases hr : rawOk s
      · obtain ⟨s', e, h3, h4⟩ := h1 hr
        exact .inl ⟨s', true, e, h3, h4, fun e => absurd e h0⟩
      · obtain ⟨k, e⟩ := h2 hr
        refine .inr ⟨k, e, fun hc => hr ?_⟩
        unfold rawOk
        omega
end Go.Proofs.YtmceikfbgmcmaaaGreatDoor.D

/- The walks of the document's own Cut and number. -/
import Derived.Test.YthnajibbkinlkaaGreatDoorRefA
import Derived.Test.YthnajibbkinlkaaGreatDoorPureB
import Derived.Laws.BitsLemmas
namespace Go.Proofs.YthnajibbkinlkaaGreatDoor.PV
open Go.RowKit Go.Proofs.YthnajibbkinlkaaGreatDoorW.PrintWords Go.Proofs.YthnajibbkinlkaaGreatDoorW.PrintLast Go.Proofs.YthnajibbkinlkaaGreatDoorW.PrintMore
attribute [local go_sem] max2_int min2_int max_two min_two max_three min_three max_four min_four   -- for this text's walks alone
set_option linter.unusedVariables false
set_option linter.unusedSimpArgs false

/-! The document's own Cut, number, Read, Order. -/
def splS (c : UInt8) (s : ByteArray) : List ByteArray := (splitL c s.data.toList).map (fun l => ⟨l.toArray⟩)
theorem spl_S (s : ByteArray) : spl s = splS 46 s := by
  unfold splS
  rw [← spl_eq s, List.map_map]
  have : ((fun l : List UInt8 => (⟨l.toArray⟩ : ByteArray)) ∘ fun x : ByteArray => x.data.toList) = id := by
    funext x
    cases x
    rfl
  rw [this, List.map_id]
theorem ext_map (s : ByteArray) (a b : Nat) : (s.extract a b).data.toList = (s.data.toList.drop a).take (b - a) := extract_list s a b
theorem cut_end {c : UInt8} {L : List UInt8} {a : Nat} {Y : List (List UInt8)} (h : Y ++ splitL c (L.drop a) = splitL c L) (hn : c ∉ (L.drop a).take (L.length - a)) : Y ++ [(L.drop a).take (L.length - a)] = splitL c L := by
  have e : (L.drop a).take (L.length - a) = L.drop a := List.take_of_length_le (by rw [List.length_drop]; exact Nat.le_refl _)
  rw [e] at hn ⊢
  rw [← h, split_none c _ hn]
theorem cut_mid {c : UInt8} {L : List UInt8} {a i : Nat} {Y : List (List UInt8)} (hai : a ≤ i) (hi : i < L.length) (hx : L[i]'hi = c) (h : Y ++ splitL c (L.drop a) = splitL c L) (hn : c ∉ (L.drop a).take (i - a)) :
    (Y ++ [(L.drop a).take (i - a)]) ++ splitL c (L.drop (i + 1)) = splitL c L := by
  have e : L.drop a = (L.drop a).take (i - a) ++ c :: L.drop (i + 1) := by
    conv => lhs; rw [← List.take_append_drop (i - a) (L.drop a), List.drop_drop, show a + (i - a) = i by omega, List.drop_eq_getElem_cons hi, hx]
  rw [← h]
  conv => rhs; rw [e, split_at c _ _ hn]
  simp
theorem cut_go {c : UInt8} {L : List UInt8} {a i : Nat} (hai : a ≤ i) (hi : i < L.length) (hx : L[i]'hi ≠ c) (hn : c ∉ (L.drop a).take (i - a)) : c ∉ (L.drop a).take (i + 1 - a) := by
  have hlen : i - a < (L.drop a).length := by rw [List.length_drop]; omega
  rw [show i + 1 - a = (i - a) + 1 by omega, List.take_succ_eq_append_getElem hlen, List.mem_append]
  rintro (h | h)
  · exact hn h
  · apply hx
    have : (L.drop a)[i - a]'hlen = L[i]'hi := by rw [List.getElem_drop]; congr 1; omega
    rw [this] at h
    exact (List.mem_singleton.1 h).symm
set_option maxHeartbeats 8000000 in
set_option maxRecDepth 100000 in
theorem rcut_calls (s : ByteArray) (c : UInt8) (w : World) (hs : s.size ≤ 1000) :
    Calls Tryz.prog 51 #[.string s, .int .u8 c.toNat] w fun e w' => ∃ v : Value, e = .returned v ∧ Kd.R Kd.string 9 w' w.heap.size (fun _ => True) v (splS c s) ∧ Below w.heap.size w w' := by
  go_enter Tryz.func51, Tryz.ntmps51
  go_wp2
  go_loopg [5, 6, 7] (s.size + 1) (fun g v5 v6 v7 w' => ∃ (i at_ : Nat) (ys : List ByteArray), i ≤ s.size + 1 ∧ at_ ≤ i ∧ g = s.size + 1 - i ∧ v6 = .int .i64 at_ ∧ v7 = .int .i64 i ∧ ys.length ≤ i ∧ Aside0 (i ≤ s.size → ys.map (·.data.toList) ++ splitL c (s.data.toList.drop at_) = splitL c s.data.toList ∧ c ∉ (s.data.toList.drop at_).take (i - at_)) ∧ Aside0 (i = s.size + 1 → ys.map (·.data.toList) = splitL c s.data.toList) ∧ Aside0 (Kd.R Kd.string 9 w' w.heap.size (fun _ => True) v5 ys) ∧ Aside0 (Below w.heap.size w w'))
  case atStart => exact ⟨0, 0, [], Nat.zero_le _, Nat.le_refl _, rfl, rfl, rfl, Nat.le_refl _, ⟨fun _ => ⟨rfl, by simp⟩⟩, ⟨fun h => by omega⟩, ⟨Kd.R_nil _ _ _ _ _⟩, ⟨Below.refl _ _⟩⟩
  case round =>
    obtain ⟨i, at_, ys, hi, hat, rfl, rfl, rfl, hys, HI, HJ, HR, HB⟩ := hrel
    have p1 : (0 : Int) ≤ (i : Int) := by omega
    have p2 : (0 : Int) ≤ (at_ : Int) := by omega
    have p3 : (at_ : Int) ≤ (i : Int) := by omega
    by_cases h1 : i < s.size
    · have q1 : (i : Int) < (s.size : Int) := by omega
      have q2 : (i : Int) ≤ (s.size : Int) := by omega
      have q3 : ((i : Int) == (s.size : Int)) = false := beq_eq_false_iff_ne.2 (by omega)
      obtain ⟨e1, e2⟩ := HI.out (by omega)
      have hL : i < s.data.toList.length := by rw [size_len]; exact h1
      have hLi : s.data.toList[i]'hL = (s[i]'h1) := rfl
      by_cases hc : (s[i]'h1) = c
      · have hcc : ((s[i]'h1).toNat : Int) = (c.toNat : Int) := by rw [hc]
        have HX := Aside0.mk (cut_mid hat hL (hLi.trans hc) e1 e2)
        clear e1 e2 HI HJ
        go_wp2_with (at_builtin; refine Kd.R_append Kd.string (w0 := w) w.heap.size rfl (.tmp 25) (.tmp 30) 22 9 (.string ⟨#[]⟩) 16 rfl rfl (by kernel_rfl) rfl (by decide) (by decide) u5 ys (s.extract at_ i) [.string (s.extract at_ i)] (fun _ => True) (fun _ => False) rfl rfl rfl (fun k hk => hk.elim) (fun _ _ => trivial) HR.out HB.out HB.out.size (by omega) ?_; intro v1 w1 hR1 hb1 _ _)
        go_roundg (s.size + 1 - (i + 1))
        case measure => omega
        case rel =>
          refine ⟨i + 1, i + 1, ys ++ [s.extract at_ i], by omega, Nat.le_refl _, rfl, by simp, by simp, by simp; omega, ⟨fun _ => ⟨?_, by simp⟩⟩, ⟨fun h => by omega⟩, ⟨hR1⟩, ⟨hb1⟩⟩
          rw [List.map_append, List.map_cons, List.map_nil, ext_map]
          exact HX.out
      · have hcc : (((s[i]'h1).toNat : Int) == (c.toNat : Int)) = false := beq_eq_false_iff_ne.2 (fun h => hc (UInt8.toNat_inj.1 (by omega)))
        have HX := Aside0.mk (And.intro e1 (cut_go hat hL (fun h => hc (hLi.symm.trans h)) e2))
        clear e1 e2 HI HJ
        go_wp2
        go_roundg (s.size + 1 - (i + 1))
        case measure => omega
        case rel =>
          exact ⟨i + 1, at_, ys, by omega, by omega, rfl, rfl, by simp, by omega, ⟨fun _ => HX.out⟩, ⟨fun h => by omega⟩, HR, HB⟩
    · by_cases h2 : i = s.size
      · subst h2
        obtain ⟨e1, e2⟩ := HI.out (Nat.le_refl _)
        have HX := Aside0.mk (cut_end (a := at_) e1 (by rw [size_len]; exact e2))
        have q2 : (s.size : Int) ≤ (s.size : Int) := by omega
        clear e1 e2 HI HJ
        go_wp2_with (at_builtin; refine Kd.R_append Kd.string (w0 := w) w.heap.size rfl (.tmp 25) (.tmp 30) 22 9 (.string ⟨#[]⟩) 16 rfl rfl (by kernel_rfl) rfl (by decide) (by decide) u5 ys (s.extract at_ s.size) [.string (s.extract at_ s.size)] (fun _ => True) (fun _ => False) rfl rfl rfl (fun k hk => hk.elim) (fun _ _ => trivial) HR.out HB.out HB.out.size (by omega) ?_; intro v1 w1 hR1 hb1 _ _)
        go_roundg (s.size + 1 - (s.size + 1))
        case measure => omega
        case rel =>
          refine ⟨s.size + 1, s.size + 1, ys ++ [s.extract at_ s.size], by omega, Nat.le_refl _, rfl, by simp, by simp, by simp; omega, ⟨fun h => by omega⟩, ⟨fun _ => ?_⟩, ⟨hR1⟩, ⟨hb1⟩⟩
          rw [List.map_append, List.map_cons, List.map_nil, ext_map]
          have := HX.out
          rw [size_len] at this
          exact this
      · have h3 : i = s.size + 1 := by omega
        have HX := Aside0.mk (HJ.out h3)
        have q2 : ¬ (i : Int) ≤ (s.size : Int) := by omega
        clear HI HJ
        go_wp2
        go_ret
        refine ⟨_, rfl, ?_, HB.out⟩
        have : splS c s = ys := by
          unfold splS
          rw [← HX.out, List.map_map]
          have e : ((fun l : List UInt8 => (⟨l.toArray⟩ : ByteArray)) ∘ fun x : ByteArray => x.data.toList) = id := by
            funext x
            cases x
            rfl
          rw [e, List.map_id]
        rw [this]
        exact HR.out
theorem numOk_false {l : List UInt8} (h : digL l = false ∨ 10 < l.length ∨ plainL l = false) : numOk l = false := by
  unfold numOk
  rcases h with h | h | h
  · rw [h]; rfl
  · rw [decide_eq_false (by omega)]; simp
  · rw [h]; simp
theorem dgc_at {l : List UInt8} (h : l.all dgc = true) (i : Nat) (hi : i < l.length) : dgc (l[i]'hi) = true := List.all_eq_true.1 h _ (List.getElem_mem hi)
theorem dec_take (l : List UInt8) (i : Nat) (hi : i < l.length) : decV (l.take (i + 1)) = 10 * decV (l.take i) + ((l[i]'hi).toNat - 48) := by
  rw [List.take_succ_eq_append_getElem hi, dec_snoc]
set_option maxHeartbeats 8000000 in
set_option maxRecDepth 100000 in
theorem rnumber_calls (s : ByteArray) (w : World) (hs : s.size < 9223372036854775000) :
    Calls Tryz.prog 52 #[.string s] w fun e w' => ∃ a : Int, ∃ b : Bool, e = .returned (.tuple #[.int .u32 a, .bool b]) ∧ (∀ v, numV s = some v → a = v ∧ b = true) ∧ (numV s = none → b = false) ∧ Below w.heap.size w w' := by
  by_cases hd : digL s.data.toList = true
  case neg =>
    have hd := Bool.eq_false_iff.2 hd
    have hn : numV s = none := by unfold numV; rw [numOk_false (.inl hd), if_neg (by simp)]
    rw [hn]
    clear hn
    suffices key : Calls Tryz.prog 52 #[.string s] w (fun e w' => e = .returned (.tuple #[.int .u32 0, .bool false]) ∧ Below w.heap.size w w') from key.mono fun e w' h => ⟨_, _, h.1, fun v h => (by cases h), fun _ => rfl, h.2⟩
    go_enter Tryz.func52, Tryz.ntmps52
    go_wp2_with (go_at_call 70; refine (rdigits_calls _ _ hs).mono ?_; rintro e w1 ⟨rfl, hb1⟩; have HB1 := Aside0.mk hb1; clear hb1)
    refine bodyPost_ret (results_list (rs := [_, _]) Tryz.results52 (by simp) (.tmp (.tmp .nil))) rfl ⟨rfl, (by repeat (first | exact Below.refl _ _ | exact HB9.out | exact HB8.out | exact HB7.out | exact HB6.out | exact HB5.out | exact HB4.out | exact HB3.out | exact HB2.out | exact HB1.out | exact HB.out | (refine Below.alloc ?_ (by first | exact HB9.out.size | exact HB8.out.size | exact HB7.out.size | exact HB6.out.size | exact HB5.out.size | exact HB4.out.size | exact HB3.out.size | exact HB2.out.size | exact HB1.out.size | exact HB.out.size | (simp; done) | (simp <;> omega)) _) | apply pw_below_drewN | (refine Below.setCell ?_ (by first | (simp; done) | (simp <;> omega) | omega) _)))⟩
  by_cases h10 : 10 < s.size
  case pos =>
    have hn : numV s = none := by unfold numV; rw [numOk_false (.inr (.inl (by rw [size_len]; exact h10))), if_neg (by simp)]
    rw [hn]
    clear hn
    suffices key : Calls Tryz.prog 52 #[.string s] w (fun e w' => e = .returned (.tuple #[.int .u32 0, .bool false]) ∧ Below w.heap.size w w') from key.mono fun e w' h => ⟨_, _, h.1, fun v h => (by cases h), fun _ => rfl, h.2⟩
    go_enter Tryz.func52, Tryz.ntmps52
    go_wp2_with (go_at_call 70; refine (rdigits_calls _ _ hs).mono ?_; rintro e w1 ⟨rfl, hb1⟩; have HB1 := Aside0.mk hb1; clear hb1)
    refine bodyPost_ret (results_list (rs := [_, _]) Tryz.results52 (by simp) (.tmp (.tmp .nil))) rfl ⟨rfl, (by repeat (first | exact Below.refl _ _ | exact HB9.out | exact HB8.out | exact HB7.out | exact HB6.out | exact HB5.out | exact HB4.out | exact HB3.out | exact HB2.out | exact HB1.out | exact HB.out | (refine Below.alloc ?_ (by first | exact HB9.out.size | exact HB8.out.size | exact HB7.out.size | exact HB6.out.size | exact HB5.out.size | exact HB4.out.size | exact HB3.out.size | exact HB2.out.size | exact HB1.out.size | exact HB.out.size | (simp; done) | (simp <;> omega)) _) | apply pw_below_drewN | (refine Below.setCell ?_ (by first | (simp; done) | (simp <;> omega) | omega) _)))⟩
  have hpos : 0 < s.size := dig_pos hd
  have hh := head_at s hpos
  have hall : s.data.toList.all dgc = true := by unfold digL at hd; exact (Bool.and_eq_true_iff.1 hd).1
  by_cases hpl : plainL s.data.toList = true
  case neg =>
    have hpl := Bool.eq_false_iff.2 hpl
    have hn : numV s = none := by unfold numV; rw [numOk_false (.inr (.inr hpl)), if_neg (by simp)]
    rw [hn]
    clear hn hall
    suffices key : Calls Tryz.prog 52 #[.string s] w (fun e w' => e = .returned (.tuple #[.int .u32 0, .bool false]) ∧ Below w.heap.size w w') from key.mono fun e w' h => ⟨_, _, h.1, fun v h => (by cases h), fun _ => rfl, h.2⟩
    unfold plainL at hpl
    rw [Bool.or_eq_false_iff, decide_eq_false_iff_not, decide_eq_false_iff_not, hh, size_len] at hpl
    have h1 : 1 < s.size := by omega
    have h48 : (s[0]'hpos) = 48 := Classical.byContradiction fun h => hpl.2 (fun e => h (Option.some.inj e))
    have h48' : ((s[0]'hpos).toNat : Int) = 48 := by rw [h48]; rfl
    clear hpl hh h48
    go_enter Tryz.func52, Tryz.ntmps52
    go_wp2_with (go_at_call 70; refine (rdigits_calls _ _ hs).mono ?_; rintro e w1 ⟨rfl, hb1⟩; have HB1 := Aside0.mk hb1; clear hb1)
    refine bodyPost_ret (results_list (rs := [_, _]) Tryz.results52 (by simp) (.tmp (.tmp .nil))) rfl ⟨rfl, (by repeat (first | exact Below.refl _ _ | exact HB9.out | exact HB8.out | exact HB7.out | exact HB6.out | exact HB5.out | exact HB4.out | exact HB3.out | exact HB2.out | exact HB1.out | exact HB.out | (refine Below.alloc ?_ (by first | exact HB9.out.size | exact HB8.out.size | exact HB7.out.size | exact HB6.out.size | exact HB5.out.size | exact HB4.out.size | exact HB3.out.size | exact HB2.out.size | exact HB1.out.size | exact HB.out.size | (simp; done) | (simp <;> omega)) _) | apply pw_below_drewN | (refine Below.setCell ?_ (by first | (simp; done) | (simp <;> omega) | omega) _)))⟩
  have hok : numOk s.data.toList = true := by unfold numOk; rw [hd, hpl, decide_eq_true (by rw [size_len]; omega)]; rfl
  have hbd : decV s.data.toList < 10000000000 := dec_bound _ hall (by rw [size_len]; omega)
  have hcond : ∀ W : World, (1 < s.size → ((s[0]'hpos).toNat : Int) ≠ 48) := by
    intro _ h1 h
    unfold plainL at hpl
    rw [Bool.or_eq_true, decide_eq_true_eq, decide_eq_true_eq, hh, size_len] at hpl
    rcases hpl with hpl | hpl
    · omega
    · apply hpl
      congr 1
      exact UInt8.toNat_inj.1 (by have : (48 : UInt8).toNat = 48 := rfl; omega)
  have hc2 := hcond w
  have HALL := Aside0.mk hall
  have HOK := Aside0.mk hok
  clear hcond hall hok hh hpl
  by_cases h1 : 1 < s.size
  case' pos => have h48 : (((s[0]'hpos).toNat : Int) == 48) = false := beq_eq_false_iff_ne.2 (hc2 h1)
  all_goals
    clear hc2
    go_enter Tryz.func52, Tryz.ntmps52
    go_wp2_with (go_at_call 70; refine (rdigits_calls _ _ hs).mono ?_; rintro e w1 ⟨rfl, hb1⟩; have HB1 := Aside0.mk hb1; clear hb1)
    go_loopg [4, 5] s.size (fun g v4 v5 w' => ∃ i : Nat, i ≤ s.size ∧ g = s.size - i ∧ v4 = .int .u64 (decV (s.data.toList.take i) : Nat) ∧ v5 = .int .i64 i ∧ Aside0 (Below w.heap.size w w'))
    case atStart => exact ⟨0, Nat.zero_le _, rfl, by simp [decV], rfl, ⟨by repeat (first | exact Below.refl _ _ | exact HB9.out | exact HB8.out | exact HB7.out | exact HB6.out | exact HB5.out | exact HB4.out | exact HB3.out | exact HB2.out | exact HB1.out | exact HB.out | (refine Below.alloc ?_ (by first | exact HB9.out.size | exact HB8.out.size | exact HB7.out.size | exact HB6.out.size | exact HB5.out.size | exact HB4.out.size | exact HB3.out.size | exact HB2.out.size | exact HB1.out.size | exact HB.out.size | (simp; done) | (simp <;> omega)) _) | apply pw_below_drewN | (refine Below.setCell ?_ (by first | (simp; done) | (simp <;> omega) | omega) _))⟩⟩
    case round =>
      obtain ⟨i, hi, rfl, rfl, rfl, HB⟩ := hrel
      by_cases h1 : i < s.size
      · have q1 : (i : Int) < (s.size : Int) := by omega
        have hL : i < s.data.toList.length := by rw [size_len]; exact h1
        have hLi : s.data.toList[i]'hL = (s[i]'h1) := rfl
        have hdg := dgc_bounds (dgc_at HALL.out i hL)
        rw [hLi] at hdg
        have hst := dec_take s.data.toList i hL
        rw [hLi] at hst
        have hbd2 : decV (s.data.toList.take (i + 1)) < 10000000000 := dec_bound _ (List.all_eq_true.2 fun x hx => List.all_eq_true.1 HALL.out x (List.mem_of_mem_take hx)) (by rw [List.length_take, size_len]; omega)
        have w1_ : IntKind.u8.wrap (((s[i]'h1).toNat : Int) - 48) = ((s[i]'h1).toNat : Int) - 48 := by rw [IntKind.wrap_u8]; omega
        have w2_ : (((s[i]'h1).toNat : Int) - 48) % 256 = ((s[i]'h1).toNat : Int) - 48 := by omega
        generalize hD : decV (s.data.toList.take i) = D at *
        go_wp2
        go_roundg (s.size - (i + 1))
        case measure => omega
        case rel =>
          refine ⟨i + 1, by omega, rfl, ?_, by simp, HB⟩
          rw [hst]
          first | (congr 1; omega) | (simp; omega)
      · have h3 : i = s.size := by omega
        subst h3
        have e : s.data.toList.take s.size = s.data.toList := List.take_of_length_le (by rw [size_len]; exact Nat.le_refl _)
        rw [e]
        go_wp2
        refine bodyPost_ret (results_list (rs := [_, _]) Tryz.results52 (by simp) (.tmp (.tmp .nil))) rfl ⟨_, _, rfl, ?_, ?_, HB.out⟩
        · intro v h
          unfold numV at h
          rw [HOK.out] at h
          by_cases hb : (decV s.data.toList : Int) ≤ 2147483647
          · rw [if_pos ⟨rfl, hb⟩] at h
            cases h
            exact ⟨by first | rfl | omega | (simp; omega), by first | (simp; omega) | (simp [hb]; done)⟩
          · rw [if_neg (fun hh => hb hh.2)] at h
            cases h
        · intro h
          unfold numV at h
          rw [HOK.out] at h
          by_cases hb : (decV s.data.toList : Int) ≤ 2147483647
          · rw [if_pos ⟨rfl, hb⟩] at h
            cases h
          · first | (simp; omega) | (simp [hb]; done)

end Go.Proofs.YthnajibbkinlkaaGreatDoor.PV

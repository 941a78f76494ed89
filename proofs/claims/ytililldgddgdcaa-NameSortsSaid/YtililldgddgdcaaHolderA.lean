/- The walk of name.Holder (a range over a string): it returns what 'name_Holder.f' says. -/
import Derived.Test.YtililldgddgdcaaPAx0
import Derived.Test.YtililldgddgdcaaPAx1
import Derived.Test.YtililldgddgdcaaFormA
import Derived.BigCall
namespace Go.Proofs.Ytililldgddgdcaa.PA
open Go.RowKit Go.Proofs.YtililldgddgdcaaW.PrintWords Go.Proofs.YtililldgddgdcaaW.PrintLast Go.Proofs.YtililldgddgdcaaW.PrintMore
attribute [local go_sem] max2_int min2_int max_two min_two max_three min_three max_four min_four   -- for this text's walks alone
set_option linter.unusedVariables false
set_option linter.unusedSimpArgs false

def hok (c : UInt8) : Bool := decide (wk c.toNat = 1 ∧ wl c.toNat = c.toNat)
def name_Holder.f (a0 : ByteArray) : Option Int :=
  if h : 1 ≤ a0.size ∧ a0.size ≤ 64 then
    if 97 ≤ (a0[0]'(by omega)).toNat ∧ (a0[0]'(by omega)).toNat ≤ 122 ∧ a0.data.toList.all hok = true then some 0 else some 61
  else some 61
theorem hok_no {c : UInt8} (h : wk c.toNat ≠ 1 ∨ wl c.toNat ≠ c.toNat) : hok c = false := by unfold hok; rw [decide_eq_false_iff_not]; rintro ⟨a, b⟩; rcases h with h | h <;> contradiction
theorem hok_yes {c : UInt8} (h : wk c.toNat = 1) (h2 : wl c.toNat = c.toNat) : hok c = true := by unfold hok; rw [decide_eq_true_eq]; exact ⟨h, h2⟩
theorem all_split {s : ByteArray} {pos : Nat} {r : Bool} (h : (s.data.toList.drop pos).all hok = s.data.toList.all hok) {c : UInt8} {l : List UInt8} (hd : s.data.toList.drop pos = c :: l) (hc : hok c = r) : (r && l.all hok) = s.data.toList.all hok := by
  rw [← h, hd, List.all_cons, hc]

set_option maxHeartbeats 4000000 in
set_option maxRecDepth 100000 in
theorem name_Holder.calls (a0 : ByteArray) (r : Int) (w : World) (h : name_Holder.f a0 = some r) :
    Calls Try.prog 9 #[.string a0] w fun e w' => e = .returned (.int .i64 r) ∧ Below w.heap.size w w' := by
  by_cases hs : 1 ≤ a0.size ∧ a0.size ≤ 64
  case neg =>
    rw [name_Holder.f, dif_neg hs] at h
    obtain rfl := Option.some.inj h
    by_cases h0 : 1 ≤ a0.size
    · have h64 : 64 < a0.size := by omega
      clear h hs
      go_enter Try.func9, Try.ntmps9
      go_wp2
      go_ret
      exact ⟨rfl, Below.refl _ _⟩
    · have h00 : a0.size < 1 := by omega
      clear h hs h0
      go_enter Try.func9, Try.ntmps9
      go_wp2
      go_ret
      exact ⟨rfl, Below.refl _ _⟩
  case pos =>
    rw [name_Holder.f, dif_pos hs] at h
    obtain ⟨hs1, hs2⟩ := hs
    have hlt : 0 < a0.size := by omega
    by_cases h97 : 97 ≤ (a0[0]'hlt).toNat
    case neg =>
      rw [if_neg (fun hh => h97 hh.1)] at h
      obtain rfl := Option.some.inj h
      have h97' : ((a0[0]'hlt).toNat : Int) < 97 := by omega
      clear h97
      go_enter Try.func9, Try.ntmps9
      go_wp2
      go_ret
      exact ⟨rfl, Below.refl _ _⟩
    by_cases h122 : (a0[0]'hlt).toNat ≤ 122
    case neg =>
      rw [if_neg (fun hh => h122 hh.2.1)] at h
      obtain rfl := Option.some.inj h
      have h97' : (97 : Int) ≤ ((a0[0]'hlt).toNat : Int) := by omega
      have h122' : (122 : Int) < ((a0[0]'hlt).toNat : Int) := by omega
      clear h97 h122
      go_enter Try.func9, Try.ntmps9
      go_wp2
      go_ret
      exact ⟨rfl, Below.refl _ _⟩
    have HF : Aside0 ((if a0.data.toList.all hok = true then some (0 : Int) else some 61) = some r) := by
      constructor
      rw [← h]
      by_cases ha : a0.data.toList.all hok = true
      · rw [if_pos ha, if_pos ⟨h97, h122, ha⟩]
      · rw [if_neg ha, if_neg (fun hh => ha hh.2.2)]
    have h97' : (97 : Int) ≤ ((a0[0]'hlt).toNat : Int) := by omega
    have h122' : ((a0[0]'hlt).toNat : Int) ≤ 122 := by omega
    clear h97 h122 h
    go_enter Try.func9, Try.ntmps9
    go_wp2
    go_loopw [] (fun wr => ∃ (pos : Nat), Aside0 (wr.heap[w.heap.size]? = some (.stringIter a0 pos)) ∧ Aside0 (Below w.heap.size w wr) ∧ Aside0 ((a0.data.toList.drop pos).all hok = a0.data.toList.all hok) ∧ Aside0 (pos ≤ a0.size)) (fun wr => a0.size - wr.iterPos w.heap.size)
    case atStart =>
      refine ⟨0, ⟨?_⟩, ⟨(Below.refl _ w).alloc (Nat.le_refl _) _⟩, ⟨rfl⟩, ⟨by omega⟩⟩
      have := World.iter_heap w a0 0
      simpa using this
    case round =>
      obtain ⟨pos, HIT, HB, HG, HP⟩ := hrel
      have hit := HIT.out
      have hbw := HB.out
      by_cases hp : pos < a0.size
      · have hnx : ∀ ty, (Instr.next (.pointer (some ⟨w.heap.size, 0, none⟩)) true ty).run Try.prog wr = _ := fun ty => Lib.run_next_any_at wr w.heap.size a0 pos ty hit hp
        have hit2 := Lib.iterAt_heap wr w.heap.size a0 pos (pos + (Utf8.decode a0 pos).2) hit
        have hbw2 := Lib.below_iterAt hbw (k := w.heap.size) (by omega) a0 (pos + (Utf8.decode a0 pos).2)
        have HS := Aside0.mk (drop_at a0 pos hp)
        by_cases ha : (a0[pos]'hp).toNat < 128
        · have hdec := decode_ascii a0 pos hp ha
          rw [hdec] at hnx hit2 hbw2
          generalize hc : (a0[pos]'hp) = c at *
          have HIT2 := Aside0.mk hit2
          have HB2 := Aside0.mk hbw2
          clear hit hbw hit2 hbw2 hc hdec
          by_cases hk : wk c.toNat = 1
          · have HK := Aside0.mk hk
            clear hk
            by_cases hl : wl c.toNat = c.toNat
            · have HAS := Aside0.mk (all_split HG.out HS.out (hok_yes HK.out hl))
              have HL := Aside0.mk hl
              clear hl
              go_wp2_with (go_at_call 26; refine (name_what.calls 3 c.toNat 1 c.toNat _ (by rw [what_is _ _ (by omega) HK.out, HL.out])).mono ?_; rintro e W1 ⟨rfl, ⟨m, rfl⟩⟩)
              go_roundw
              case rel => exact ⟨pos + 1, ⟨HIT2.out⟩, ⟨dn HB2.out _⟩, ⟨(Bool.true_and _).symm.trans HAS.out⟩, ⟨by omega⟩⟩
              case measure => exact meas HIT.out (by exact HIT2.out) hp (Nat.lt_succ_self _)
            · have HAS := all_split HG.out HS.out (hok_no (.inr hl))
              have hr := HF.out
              rw [← HAS, Bool.false_and, if_neg Bool.false_ne_true] at hr
              obtain rfl := Option.some.inj hr
              have hne : ((c.toNat : Int) != wl c.toNat) = true := bne_iff_ne.2 (fun hh => hl hh.symm)
              clear hl HAS hr
              go_wp2_with (go_at_call 26; refine (name_what.calls 3 c.toNat 1 (wl c.toNat) _ (what_is _ _ (by omega) HK.out)).mono ?_; rintro e W1 ⟨rfl, ⟨m, rfl⟩⟩)
              go_ret
              exact ⟨rfl, dn HB2.out _⟩
          · have HAS := all_split HG.out HS.out (hok_no (.inl hk))
            have hr := HF.out
            rw [← HAS, Bool.false_and, if_neg Bool.false_ne_true] at hr
            obtain rfl := Option.some.inj hr
            have hne : (wk c.toNat != 1) = true := bne_iff_ne.2 hk
            clear hk HAS hr
            go_wp2_with (go_at_call 26; refine (name_what.calls 3 c.toNat (wk c.toNat) (wl c.toNat) _ (what_is _ _ (by omega) rfl)).mono ?_; rintro e W1 ⟨rfl, ⟨m, rfl⟩⟩)
            go_ret
            exact ⟨rfl, dn HB2.out _⟩
        · have hh := decode_high a0 pos hp (by omega)
          have hdl := decode_le a0 pos
          have HB2 := Aside0.mk hbw2
          have HAS := all_split HG.out HS.out (hok_no (.inl (by rw [wk_high _ (by omega)]; decide)))
          have hr := HF.out
          rw [← HAS, Bool.false_and, if_neg Bool.false_ne_true] at hr
          obtain rfl := Option.some.inj hr
          have HK : Aside0 (wk ((Utf8.decode a0 pos).1 : Int) = 0) := ⟨wk_high _ (by omega)⟩
          clear hit hbw hit2 hbw2 HAS hr
          go_wp2_with (go_at_call 26; refine (name_what.calls 3 ((Utf8.decode a0 pos).1 : Int) 0 (wl ((Utf8.decode a0 pos).1 : Int)) _ (what_is _ _ (by omega) HK.out)).mono ?_; rintro e W1 ⟨rfl, ⟨m, rfl⟩⟩)
          go_ret
          exact ⟨rfl, dn HB2.out _⟩
      · have hnx : ∀ ty, (Instr.next (.pointer (some ⟨w.heap.size, 0, none⟩)) true ty).run Try.prog wr = _ := fun ty => Lib.run_next_end_at wr w.heap.size a0 pos ty hit hp
        have hd : a0.data.toList.drop pos = [] := List.drop_eq_nil_of_le (by rw [size_len]; omega)
        have hg := HG.out
        rw [hd, List.all_nil] at hg
        have hr := HF.out
        rw [← hg, if_pos rfl] at hr
        obtain rfl := Option.some.inj hr
        clear hd hg hr
        go_wp2
        go_ret
        exact ⟨rfl, hbw⟩

end Go.Proofs.Ytililldgddgdcaa.PA

/- The table of words, made. -/
import Derived.Test.YtopcidphlleciaaGreatDoorProG
namespace Go.Proofs.YtopcidphlleciaaGreatDoor.S
open Go.RowKit Go.Extern.Stop Go.Stop Go.Extern Go.Proofs.YtopcidphlleciaaGreatDoorW.PrintWords Go.Proofs.YtopcidphlleciaaGreatDoorW.PrintLast Go.Proofs.YtopcidphlleciaaGreatDoorW.PrintMore
set_option linter.unusedVariables false
set_option linter.unusedSimpArgs false
def newB (x : Shp) : TB → List ByteArray → Bool
  | _, [] => true
  | L, k :: r => (lkT L k).isNone && newB x (L ++ [(k, x)]) r
theorem new_of (x : Shp) : ∀ (ws : List ByteArray) (L : TB), newB x L ws = true → ∀ i (h : i < ws.length), lkT (L ++ (ws.take i).map (fun k => (k, x))) ws[i] = none
  | [], L, h, i, hi => absurd hi (by simp)
  | k :: r, L, h, i, hi => by
    rw [newB, Bool.and_eq_true] at h
    cases i with
    | zero =>
      show lkT (L ++ []) k = none
      rw [List.append_nil]
      exact Option.isNone_iff_eq_none.1 h.1
    | succ i =>
      have := new_of x r (L ++ [(k, x)]) h.2 i (by simpa using hi)
      rw [List.append_assoc] at this
      exact this
theorem put2 (b mv n g : Nat) (L L2 : TB) (xk : ByteArray) (xl : Int) (xm : Bool) (ws : List ByteArray) (cs : Array Value) (w : World) (hg : g = w.heap.size) (hM : MapT w b L) (hmv : w.cell? ⟨mv, 0, none⟩ = some (.map (some b))) (hmb : mv ≠ b) (hn : ws.length = n)
    (hcs : cs = (ws.map Value.string).toArray) (hsz : ws.all (fun k => decide (k.size ≤ 100)) = true) (hL : L.length + ws.length ≤ 1000) (hnew : newB (xk, xl, xm) L ws = true) (hL2 : L ++ ws.map (fun k => (k, (xk, xl, xm))) = L2) :
    Calls Tryz.prog 60 #[.agg #[.string xk, .int .i64 xl, .bool xm], .slice (some ⟨g, 0, none⟩) n n, .pointer (some ⟨mv, 0, none⟩)] (w.alloc (.cells cs 9)) fun e w' => e = .returned (.tuple #[]) ∧ MapT w' b L2 ∧ w'.cell? ⟨mv, 0, none⟩ = some (.map (some b)) ∧ w.heap.size ≤ w'.heap.size ∧ ∀ B w0, Below B w0 w → B ≤ b → B ≤ w.heap.size → Below B w0 w' := by
  have hb := hM.lt
  have hmvl := World.block_lt_of_cell? w _ hmv
  subst hcs
  subst hL2
  subst hg
  refine (put_calls b mv w.heap.size n L (xk, xl, xm) ws _ (hM.below ((Below.refl _ _).alloc (Nat.le_refl _) _)) (by rw [← hmv]; exact ((Below.refl _ _).alloc (Nat.le_refl _) _).cell (p := ⟨mv, 0, none⟩) hmvl) hmb (by omega) (by simp) hn (fun i h => ?_) (fun k hk => ?_) (by unfold maxLen; omega) (new_of (xk, xl, xm) ws L hnew)).mono ?_
  · rw [cell_of_row _ _ _ _ _ _ (heap_alloc_new w _)]
    simp [h]
  · have := of_decide_eq_true (List.all_eq_true.1 hsz k hk)
    unfold maxLen
    omega
  · rintro e w' ⟨rfl, h1, h2⟩
    refine ⟨rfl, h1, h2.cell (a := ⟨mv, 0, none⟩) (by rw [← hmv]; exact ((Below.refl _ _).alloc (Nat.le_refl _) _).cell (p := ⟨mv, 0, none⟩) hmvl) (fun e => by injection e with e; exact hmb e), by have := h2.size; simp at this; omega, fun B w0 hB h3 h4 => ?_⟩
    exact (hB.alloc h4 _).grown h2 (by simp; omega) (fun j hj => by injection hj with hj; omega)
set_option maxHeartbeats 64000000 in
set_option maxRecDepth 100000 in
theorem shapes_calls (w : World) : Calls Tryz.prog 46 #[] w fun e w' => ∃ b, e = .returned (.map (some b)) ∧ w.heap.size ≤ b ∧ MapT w' b tab ∧ Below w.heap.size w w' := by
  have hmk := fun w : World => run_makeMap (P := Tryz.prog) 94 w
  have hmf : ∀ (fn : Fn) (first cap : Array Value) (w : World), (Instr.makeFunc fn first cap).run Tryz.prog w = .ok (.func fn first cap) w := fun _ _ _ _ => rfl
  go_enter Tryz.func46, Tryz.ntmps46
  go_wp2_with (fail)
  refine (put2 w.heap.size (w.heap.size + 1) 7 _ (tab.take 0) (tab.take 7) ⟨#[]⟩ 0 false [⟨#[104, 101, 97, 100]⟩, ⟨#[101, 118, 101, 110, 116, 115]⟩, ⟨#[109, 101, 110, 100]⟩, ⟨#[99, 108, 105, 101, 110, 116]⟩, ⟨#[115, 101, 114, 118, 101]⟩, ⟨#[116, 105, 99, 107]⟩, ⟨#[102, 108, 121]⟩] _ _ (by first | rfl | (simp; done)) ((mapT_new w).below ((Below.refl _ _).alloc (Nat.le_refl _) _)) (by go_simp) (by omega) rfl rfl (by decide +kernel) (by decide +kernel) (by decide +kernel) rfl).mono ?_
  rintro e w1 ⟨rfl, hM, hv1, hz, hB⟩
  have HM1 := Aside0.mk hM
  have HB1 := Aside0.mk (hB w.heap.size w (by exact ((Below.refl _ _).alloc (Nat.le_refl _) _).alloc (by simp) _) (Nat.le_refl _) (by simp <;> omega))
  have hz1 : w.heap.size ≤ w1.heap.size := HB1.out.size
  clear hM hz hB
  go_wp2_with (fail)
  refine (put2 w.heap.size (w.heap.size + 1) 7 _ (tab.take 7) (tab.take 14) ⟨#[84]⟩ 0 false [⟨#[112, 97, 103, 101]⟩, ⟨#[102, 105, 108, 101]⟩, ⟨#[119, 104, 111]⟩, ⟨#[104, 111, 108, 100]⟩, ⟨#[102, 101, 116, 99, 104]⟩, ⟨#[102, 114, 101, 115, 104]⟩, ⟨#[115, 104, 117, 116]⟩] _ _ (by first | rfl | (simp; done)) (HM1.out) hv1 (by omega) rfl rfl (by decide +kernel) (by decide +kernel) (by decide +kernel) rfl).mono ?_
  rintro e w2 ⟨rfl, hM, hv2, hz, hB⟩
  have HM2 := Aside0.mk hM
  have HB2 := Aside0.mk (hB w.heap.size w (by exact HB1.out) (Nat.le_refl _) (by exact hz1))
  have hz2 : w.heap.size ≤ w2.heap.size := HB2.out.size
  clear hM hz hB hv1
  go_wp2_with (fail)
  refine (put2 w.heap.size (w.heap.size + 1) 3 _ (tab.take 14) (tab.take 17) ⟨#[84, 84]⟩ 0 false [⟨#[97, 99, 99, 111, 117, 110, 116]⟩, ⟨#[116, 101, 97, 109]⟩, ⟨#[103, 101, 116]⟩] _ _ (by first | rfl | (simp; done)) (HM2.out) hv2 (by omega) rfl rfl (by decide +kernel) (by decide +kernel) (by decide +kernel) rfl).mono ?_
  rintro e w3 ⟨rfl, hM, hv3, hz, hB⟩
  have HM3 := Aside0.mk hM
  have HB3 := Aside0.mk (hB w.heap.size w (by exact HB2.out) (Nat.le_refl _) (by exact hz2))
  have hz3 : w.heap.size ≤ w3.heap.size := HB3.out.size
  clear hM hz hB hv2
  go_wp2_with (fail)
  refine (put2 w.heap.size (w.heap.size + 1) 6 _ (tab.take 17) (tab.take 23) ⟨#[84, 84, 84]⟩ 0 false [⟨#[121, 97, 110, 107]⟩, ⟨#[117, 110, 121, 97, 110, 107]⟩, ⟨#[111, 119, 110]⟩, ⟨#[100, 105, 115, 111, 119, 110]⟩, ⟨#[106, 111, 105, 110]⟩, ⟨#[108, 101, 97, 118, 101]⟩] _ _ (by first | rfl | (simp; done)) (HM3.out) hv3 (by omega) rfl rfl (by decide +kernel) (by decide +kernel) (by decide +kernel) rfl).mono ?_
  rintro e w4 ⟨rfl, hM, hv4, hz, hB⟩
  have HM4 := Aside0.mk hM
  have HB4 := Aside0.mk (hB w.heap.size w (by exact HB3.out) (Nat.le_refl _) (by exact hz3))
  have hz4 : w.heap.size ≤ w4.heap.size := HB4.out.size
  clear hM hz hB hv3
  go_wp2_with (fail)
  refine (put2 w.heap.size (w.heap.size + 1) 1 _ (tab.take 23) (tab.take 24) ⟨#[84, 84, 84, 84]⟩ 0 false [⟨#[100, 101, 112, 114, 101, 99, 97, 116, 101]⟩] _ _ (by first | rfl | (simp; done)) (HM4.out) hv4 (by omega) rfl rfl (by decide +kernel) (by decide +kernel) (by decide +kernel) rfl).mono ?_
  rintro e w5 ⟨rfl, hM, hv5, hz, hB⟩
  have HM5 := Aside0.mk hM
  have HB5 := Aside0.mk (hB w.heap.size w (by exact HB4.out) (Nat.le_refl _) (by exact hz4))
  have hz5 : w.heap.size ≤ w5.heap.size := HB5.out.size
  clear hM hz hB hv4
  go_wp2_with (fail)
  refine (put2 w.heap.size (w.heap.size + 1) 1 _ (tab.take 24) (tab.take 25) ⟨#[84, 84, 84, 84]⟩ 0 true [⟨#[112, 117, 98, 108, 105, 115, 104]⟩] _ _ (by first | rfl | (simp; done)) (HM5.out) hv5 (by omega) rfl rfl (by decide +kernel) (by decide +kernel) (by decide +kernel) rfl).mono ?_
  rintro e w6 ⟨rfl, hM, hv6, hz, hB⟩
  have HM6 := Aside0.mk hM
  have HB6 := Aside0.mk (hB w.heap.size w (by exact HB5.out) (Nat.le_refl _) (by exact hz5))
  have hz6 : w.heap.size ≤ w6.heap.size := HB6.out.size
  clear hM hz hB hv5
  go_wp2_with (fail)
  refine (put2 w.heap.size (w.heap.size + 1) 1 _ (tab.take 25) (tab.take 26) ⟨#[78]⟩ 1 false [⟨#[112, 111, 119, 101, 114]⟩] _ _ (by first | rfl | (simp; done)) (HM6.out) hv6 (by omega) rfl rfl (by decide +kernel) (by decide +kernel) (by decide +kernel) rfl).mono ?_
  rintro e w7 ⟨rfl, hM, hv7, hz, hB⟩
  have HM7 := Aside0.mk hM
  have HB7 := Aside0.mk (hB w.heap.size w (by exact HB6.out) (Nat.le_refl _) (by exact hz6))
  have hz7 : w.heap.size ≤ w7.heap.size := HB7.out.size
  clear hM hz hB hv6
  go_wp2_with (fail)
  refine (put2 w.heap.size (w.heap.size + 1) 5 _ (tab.take 26) (tab.take 31) ⟨#[73]⟩ 0 false [⟨#[115, 101, 110, 100]⟩, ⟨#[114, 101, 118]⟩, ⟨#[104, 101, 97, 114, 100]⟩, ⟨#[101, 118, 101, 110, 116, 115, 45, 111, 102]⟩, ⟨#[112, 117, 108, 108]⟩] _ _ (by first | rfl | (simp; done)) (HM7.out) hv7 (by omega) rfl rfl (by decide +kernel) (by decide +kernel) (by decide +kernel) rfl).mono ?_
  rintro e w8 ⟨rfl, hM, hv8, hz, hB⟩
  have HM8 := Aside0.mk hM
  have HB8 := Aside0.mk (hB w.heap.size w (by exact HB7.out) (Nat.le_refl _) (by exact hz7))
  have hz8 : w.heap.size ≤ w8.heap.size := HB8.out.size
  clear hM hz hB hv7
  go_wp2_with (fail)
  refine (put2 w.heap.size (w.heap.size + 1) 1 _ (tab.take 31) (tab.take 32) ⟨#[73, 78]⟩ 1 false [⟨#[112, 111, 119, 101, 114, 45, 111, 102]⟩] _ _ (by first | rfl | (simp; done)) (HM8.out) hv8 (by omega) rfl rfl (by decide +kernel) (by decide +kernel) (by decide +kernel) rfl).mono ?_
  rintro e w9 ⟨rfl, hM, hv9, hz, hB⟩
  have HM9 := Aside0.mk hM
  have HB9 := Aside0.mk (hB w.heap.size w (by exact HB8.out) (Nat.le_refl _) (by exact hz8))
  have hz9 : w.heap.size ≤ w9.heap.size := HB9.out.size
  clear hM hz hB hv8
  go_wp2_with (fail)
  refine (put2 w.heap.size (w.heap.size + 1) 2 _ (tab.take 32) (tab.take 34) ⟨#[73, 78, 84]⟩ 0 false [⟨#[115, 111, 108, 118, 101]⟩, ⟨#[112, 97, 103, 101, 45, 111, 102]⟩] _ _ (by first | rfl | (simp; done)) (HM9.out) hv9 (by omega) rfl rfl (by decide +kernel) (by decide +kernel) (by decide +kernel) rfl).mono ?_
  rintro e w10 ⟨rfl, hM, hv10, hz, hB⟩
  have HM10 := Aside0.mk hM
  have HB10 := Aside0.mk (hB w.heap.size w (by exact HB9.out) (Nat.le_refl _) (by exact hz9))
  have hz10 : w.heap.size ≤ w10.heap.size := HB10.out.size
  clear hM hz hB hv9
  go_wp2_with (fail)
  refine (put2 w.heap.size (w.heap.size + 1) 2 _ (tab.take 34) (tab.take 36) ⟨#[78, 84]⟩ 0 false [⟨#[115, 111, 108, 118, 101, 45, 104, 101, 114, 101]⟩, ⟨#[108, 111, 99, 107]⟩] _ _ (by first | rfl | (simp; done)) (HM10.out) hv10 (by omega) rfl rfl (by decide +kernel) (by decide +kernel) (by decide +kernel) rfl).mono ?_
  rintro e w11 ⟨rfl, hM, hv11, hz, hB⟩
  have HM11 := Aside0.mk hM
  have HB11 := Aside0.mk (hB w.heap.size w (by exact HB10.out) (Nat.le_refl _) (by exact hz10))
  have hz11 : w.heap.size ≤ w11.heap.size := HB11.out.size
  clear hM hz hB hv10
  go_wp2_with (fail)
  refine (put2 w.heap.size (w.heap.size + 1) 1 _ (tab.take 36) (tab.take 37) ⟨#[73, 84]⟩ 0 false [⟨#[104, 111, 108, 100, 45, 111, 102]⟩] _ _ (by first | rfl | (simp; done)) (HM11.out) hv11 (by omega) rfl rfl (by decide +kernel) (by decide +kernel) (by decide +kernel) rfl).mono ?_
  rintro e w12 ⟨rfl, hM, hv12, hz, hB⟩
  have HM12 := Aside0.mk hM
  have HB12 := Aside0.mk (hB w.heap.size w (by exact HB11.out) (Nat.le_refl _) (by exact hz11))
  have hz12 : w.heap.size ≤ w12.heap.size := HB12.out.size
  clear hM hz hB hv11
  go_wp2_with (fail)
  go_ret
  exact ⟨w.heap.size, rfl, Nat.le_refl _, HM12.out, HB12.out⟩
end Go.Proofs.YtopcidphlleciaaGreatDoor.S

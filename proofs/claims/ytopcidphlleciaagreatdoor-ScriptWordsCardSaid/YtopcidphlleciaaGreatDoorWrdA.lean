/- The program's Words. -/
import Derived.Test.YtopcidphlleciaaGreatDoorWrdP
import Derived.Test.YtopcidphlleciaaGreatDoorProH
import Derived.Test.YtopcidphlleciaaGreatDoorProN
import Derived.Test.YtopcidphlleciaaGreatDoorShelfS
import Derived.Maps.RangeWalk
import Derived.Maps.StringElems
import Derived.Sort.KeysCollected
import Derived.Sort.OwnSorted
import Derived.Maps.AppendAt
import Derived.WalkKit
namespace Go.Proofs.YtopcidphlleciaaGreatDoor.S
open Go.RowKit Go.Extern.Stop Go.Stop Go.Extern Go.Proofs.YtopcidphlleciaaGreatDoorW.PrintWords Go.Proofs.YtopcidphlleciaaGreatDoorW.PrintLast Go.Proofs.YtopcidphlleciaaGreatDoorW.PrintMore
set_option linter.unusedVariables false
set_option linter.unusedSimpArgs false
open Go.Maps Go.WideElems Go.WideMaps Go.Sort
theorem infoS : (Tryz.prog.info? 9).map (fun i => (i.zero, i.size, i.bytes)) = some (some (.string ⟨#[]⟩), 1, 16) := by kernel_rfl
set_option maxHeartbeats 16000000 in
set_option maxRecDepth 100000 in
theorem words_calls (w : World) : Calls Tryz.prog 26 #[] w fun e w' => ∃ g c, e = .returned (.slice (some ⟨g, 0, none⟩) 37 c) ∧ w'.ownsRow w.heap.size 9 1 (.slice (some ⟨g, 0, none⟩) 37 c) 37 (wordsL.map Value.string) ∧ Below w.heap.size w w' := by
  obtain ⟨i0, hi, hz0, hz1, hz2⟩ := info_parts infoS
  go_enter Tryz.func26, Tryz.ntmps26
  go_wp2_with (fail)
  refine (shapes_calls _).mono ?_
  rintro e w1 ⟨b, rfl, hbs, hM, hb1⟩
  obtain ⟨M, hown, hagr, hsize⟩ := hM
  have hbl := hown.lt
  have HX := Aside0.mk hagr
  have HS : Aside0 (Maps.size M = 37) := ⟨by rw [hsize]; rfl⟩
  have HB1 := Aside0.mk hb1
  clear hagr hb1 hsize
  go_wp2_with (first
    | (at_range; refine wpList_range_own _ rfl _ 94 rfl 9 92 KT Tryz.underlying94 _ b _ _ rfl hown ?_; intro w0 hrg0 hg0 hs0)
    | go_in)
  go_frame
  go_loopw [1, 2] (fun v v2 wr => ∃ (left : Lit → Bool) (cnt : Nat) (ss : List (List UInt8)), wr.ranges Tryz.prog 9 RS b w1.heap.size tab.length M left cnt ∧ Aside0 (ss.length + cnt ≤ 37) ∧
      wr.ownsRow w1.heap.size 9 1 v ss.length (ss.map encStr) ∧ Collected M left ss ∧ Below w1.heap.size w1 wr)
    (fun _ _ wr => wr.rangeLeft b w1.heap.size)
  case atStart =>
    exact ⟨_, _, [], hrg0, ⟨by have := HS.out; simp; omega⟩, World.ownsRow_nil _ _ _ _, Collected.start M, (Below.refl _ _).grown hg0 (Nat.le_refl _) (fun j hj => by cases hj)⟩
  case round =>
    obtain ⟨left, cnt, ss, hrg, HC, hrow, hC, hnx⟩ := hrel
    go_wp2_with (first
      | (at_next; refine wpList_next_ranges _ rfl _ rfl 9 KT RS encStr (fun v : Value => v) (fun key kl hk => by obtain ⟨x, hx, _⟩ := Maps.keyOf_str Tryz.underlying9 hk; exact ⟨x, hx⟩) (fun v y hv => ⟨v, rfl⟩) b w1.heap.size _ _ _ _ rfl hrg ?_ ?_)
      | go_in)
    · intro hc0 hl0
      have hperm : ∀ x, x ∈ ss ↔ Maps.has M (.string x) = true := fun x => by rw [hC.2 x, hl0]; simp
      have hsrt := words_sorted HX.out hC.1 hperm
      have hl37 : ss.length = 37 := by
        have e := congrArg List.length hsrt
        rw [List.length_mergeSort] at e
        exact e
      rcases hrow.2 with ⟨hnil, hn0⟩ | ⟨g, cap, cur, rfl, hbase, hb, h1, h2, h3, h4⟩
      · omega
      · have hH : Holds encStr wr g 0 ss.toArray := holds_of_block hb (by simpa using h4)
        have hgl : g < wr.heap.size := (Array.getElem?_eq_some_iff.1 hb).1
        have hc := Tryz.slices_Sort_string g 0 cap ss wr hH hgl (by omega)
        have HNX := Aside0.mk hnx
        have HH := Aside0.mk (fun (n : Nat) (os : Array Obj) => ownsRow_sorted (w := wr) (base := w1.heap.size) (n := n) (os := os) (ss := ss) (ts := wordsL.map tl) (by rw [hl37]; rfl) hbase hb h1 h2 h3)
        rw [hsrt, hl37] at hc
        rw [hl37] at HH
        clear hsrt hperm hC hrow hrg hnx HC hH h3 h4
        rw [hl37]
        go_wp2_with (fail)
        refine hc.mono ?_
        rintro e w5 ⟨rfl, nn, os, hw5⟩
        have HW5 := Aside0.mk hw5
        clear hw5
        go_wp2_with (fail)
        go_ret
        have hw5 := HW5.out
        have hrow5 := HH.out nn os
        have hgr := grownBy_sorted (w := wr) (g := g) (n := nn) (os := os) (wordsL.map tl).toArray
        rw [← hw5] at hrow5 hgr
        rw [words_enc] at hrow5
        exact ⟨_, _, rfl, own_le hrow5 HB1.out.size, below_step (w := w) HB1.out (HNX.out.grown hgr HNX.out.size (fun j hj => by cases hj; exact hbase))⟩
    · intro x c kl yd yp w2 cnt2 hkey hlk hv hat hrg2 hlt hg2 hs2 hen
      obtain ⟨x', ex, rfl, _⟩ := Maps.keyOf_str Tryz.underlying9 hkey
      obtain rfl : x = x' := encStr_inj ex
      have hrow2 := hrow.kept hg2 (Or.inr (row_ne_iter hrow hrg).symm)
      have HNX := Aside0.mk hnx
      have HHC := Aside0.mk hC
      have HHLK := Aside0.mk hlk
      have HAT := Aside0.mk hat
      have HG2 := Aside0.mk hg2
      clear hs2 hnx hC hlk hat hg2
      go_wp2_with (first
        | (at_builtin; refine wpList_append_own _ rfl _ _ 23 rfl w1.heap.size 9 i0 (.string ⟨#[]⟩) 1 16 Tryz.underlying23 hi hz0 hz1 hz2 rfl (by decide) _ _ _ rfl (hrow2.alloc _) ⟨w2.heap.size, 0, none⟩ 1 1 [encStr x] rfl rfl (cell_one_new _ _ _) (by simp [Value.oneCell', encStr]) (by have := HC.out; unfold maxLen at *; omega) (by have := HC.out; omega) (by have := HNX.out.size; have := HG2.out.size; simp; omega) ?_; intro v' w3 hown' hg3 hnil3; go_frame)
        | go_in)
      have hrg3 := (hrg2.alloc (Obj.cells #[encStr x] 9)).kept hg3 (row_ne_low hrow2 hbl) (row_ne_iter hrow2 hrg2)
      go_roundw
      case rel =>
        refine ⟨_, cnt2, ss ++ [x], hrg3, ⟨by have := HC.out; simp; omega⟩, by simpa using hown', HHC.out.step HHLK.out HAT.out, ?_⟩
        exact ((HNX.out.grown HG2.out HNX.out.size (fun j hj => by cases hj; exact Nat.le_refl _)).alloc (by have := HNX.out.size; have := HG2.out.size; omega) _).grown hg3 (by have := HNX.out.size; have := HG2.out.size; simp; omega) (fun j hj => (hrow2.lt j hj).1)
      case measure => rw [hrg3.left_eq, hrg.left_eq]; exact hlt
end Go.Proofs.YtopcidphlleciaaGreatDoor.S

/- All. -/
import Derived.Test.YtmceikfbgmcmaaaGreatDoorLgZ
import Derived.RangeFuncNested
import Derived.RangeFuncBound
import Derived.RangeFuncCalls
import Derived.RangeFuncLeaves
import Derived.Shelf.Abstract
import Derived.Shelf.RegionOpen
import Derived.WalkKit
import Derived.OwnWalkIn
import Derived.TacticsInMore
import Derived.LoopNIn
import Derived.LoopIn
import Derived.RangeFuncFrom
namespace Go.Proofs.YtmceikfbgmcmaaaGreatDoor.D
open Go.RowKit Go.Extern.Stop Go.Stop Go.Extern Go.Proofs.YtmceikfbgmcmaaaGreatDoorW.PrintWords Go.Proofs.YtmceikfbgmcmaaaGreatDoorW.PrintLast Go.Proofs.YtmceikfbgmcmaaaGreatDoorW.PrintMore
set_option linter.unusedVariables false
set_option linter.unusedSimpArgs false
attribute [local go_sem] Oper.semAt_some
def iu (recs : List BL) (k : Nat) : List (Nat × BL) := (List.range k).map fun j => (j, recs[j]?.getD [])
theorem iu_succ (recs : List BL) (k : Nat) : iu recs (k + 1) = iu recs k ++ [(k, recs[k]?.getD [])] := by simp [iu, List.range_succ]
theorem iu_len (recs : List BL) (k : Nat) : (iu recs k).length = k := by simp [iu]
theorem iu_zero (recs : List BL) : iu recs 0 = [] := rfl
/-- Each block of cells but one stands. -/
def CK (nb : Nat) (A B : World) : Prop := ∀ k o, A.heap[k]? = some o → o.isCells = true → k ≠ nb → B.heap[k]? = some o
theorem CK.refl (nb : Nat) (A : World) : CK nb A A := fun _ _ h _ _ => h
theorem ck_t {nb : Nat} {A B C : World} (h : CK nb A B) (k : CK nb B C) : CK nb A C := fun i o hi ho hn => k i o (h i o hi ho hn) ho hn
theorem ck_b (nb : Nat) {n : Nat} (W : World) (l : Nat) (o o' : Obj) (_ : n ≤ l) (h : W.heap[l]? = some o) (ho : o.isCells = false) (_ : o.isWalk = false) : CK nb W (W.putObj l o') := fun k o'' hk hc _ => by
  have hkl : k ≠ l := fun e => by subst e; rw [h] at hk; injection hk with hk; subst hk; rw [ho] at hc; cases hc
  exact (World.putObj_heap_other hkl).trans hk
theorem CK.set {nb : Nat} {A : World} (o : Nat) (v : Value) : CK nb A (A.setCell ⟨nb, o, none⟩ v) := fun k o' hk _ hn => (Below.heap_setCell A ⟨nb, o, none⟩ v k (fun e => hn e)).trans hk
theorem CK.of {nb : Nat} {A B : World} (h : Below A.heap.size A B) : CK nb A B := fun k o hk _ _ => (h.block k (Array.getElem?_eq_some_iff.1 hk).1).trans hk
theorem CK.kt {nb : Nat} {A : World} (n : Nat) : CK nb A (A.drewN n) := fun k o hk _ _ => hk
theorem grown_of {A B : World} (h : Below A.heap.size A B) : A.grownBy B none := ⟨h.os, h.tape, h.output, h.size, fun k hk _ => h.block k hk⟩
theorem fr_form {w : World} {B : Nat} {v : Value} {l : List BL} (h : FR w B v l) : ∃ a c, v = .slice a l.length c := by
  rcases h with ⟨rfl, rfl⟩ | ⟨g, cap, cur, rfl, _⟩
  · exact ⟨_, _, rfl⟩
  · exact ⟨_, _, rfl⟩
theorem from_all (recs : List BL) : (if (recs.length : Int) ≤ 0 then [] else recs.drop (0 : Int).toNat) = recs := by
  split
  · exact (List.eq_nil_of_length_eq_zero (by omega)).symm
  · simp
set_option maxRecDepth 100000 in
set_option maxHeartbeats 8000000 in
theorem all1_in (n l Bn nb B q p : Nat) (lv : Value) (recs : List BL) (br : Bool) (J Jx : List (Nat × BL) → World → Prop) (W : World) (hn : 1 ≤ n)
    (hJ : AbidesFrom W.heap.size J)
    (hY : ∀ pre x W1, J pre W1 → pre.length < recs.length → YieldAt Fence.wide (n - 1) Tryz.prog l #[.int .i64 (x.1 : Int), .string (mkB x.2)] W1 fun e W' =>
      (e = .returned (.bool true) ∧ J (pre ++ [x]) W' ∧ CK nb W1 W') ∨ (e = .returned (.bool false) ∧ Jx (pre ++ [x]) W'))
    (hBn : W.cell? ⟨Bn, 0, none⟩ = some (.pointer (some ⟨q, 0, none⟩))) (hL : LG W B q p lv recs br) (hnb : nb < W.heap.size) (h0 : J [] W) :
    CallsIn Fence.wide n Tryz.prog 44 #[.func (.yield l) #[] #[], .pointer (some ⟨Bn, 0, none⟩)] W fun e W' => (∃ v, e = .returned v) ∧
      ((∃ xs, xs = iu recs recs.length ∧ J xs W') ∨ (∃ pre, (∃ k, k < recs.length ∧ pre = iu recs (k + 1)) ∧ Jx pre W')) := by
  have HF := Aside0.mk (from_calls 0 W hL)
  rw [from_all] at HF
  have hlen := hL.2.2
  clear hL
  refine callsIn_of_wp Tryz.func44 rfl trivial ?_ rfl
  simp only [Tryz.ntmps44, List.size_toArray, List.length_cons, List.length_nil, Nat.reduceAdd, Nat.reduceSub, Array.replicate_succ, Array.replicate_zero, List.push_toArray, List.append_toArray, List.nil_append, List.cons_append]
  gi_wp2_with (refine ⟨trivial, ?_⟩; gi_at_call 13; refine (callsIn_wide.2 HF.out).mono ?_; rintro e W1 ⟨v, rfl, hR, hb⟩; have HR := Aside0.mk hR; have HB := Aside0.mk hb; have HJ1 : Aside0 (J [] W1) := ⟨hJ [] W W1 none h0 (grown_of hb) (fun r e => by cases e)⟩; obtain ⟨a, c, rfl⟩ : ∃ a c, v = .slice a recs.length c := fr_form hR; clear hR hb)
  gi_loopw [8] (fun i wr => ∃ k : Nat, k ≤ recs.length ∧ i = .int .i64 k ∧ J (iu recs k) wr ∧ CK nb W1 wr)
    (fun i _ => recs.length - (intOf i).toNat)
  case atStart => exact ⟨0, Nat.zero_le _, rfl, HJ1.out, CK.refl _ _⟩
  case round =>
    obtain ⟨k, hk, rfl, hJs, hck⟩ := hrel
    by_cases hlt : k < recs.length
    · have HIS := Aside0.mk (iu_succ recs k)
      obtain ⟨y, hye⟩ : ∃ y, recs[k]?.getD [] = y := ⟨_, rfl⟩
      rw [hye] at HIS
      obtain ⟨fn, tmps, assign, body, hy, hR⟩ := hY _ (k, y) wr hJs (by rw [iu_len]; exact hlt)
      dsimp only at hy
      obtain ⟨g, rfl, hcx⟩ : ∃ g, a = some ⟨g, 0, none⟩ ∧ wr.cell? ⟨g, k, none⟩ = some (.string (mkB y)) := by
        rcases HR.out with ⟨_, e⟩ | ⟨g, cap, cur, e, hg, hh, hl, hc⟩
        · rw [e] at hlt; simp at hlt
        · injection e with e
          refine ⟨g, e, ?_⟩
          have := hck g _ hh rfl (by omega)
          rw [cell_of_row _ _ _ _ _ _ this]
          exact hc k y (by rw [← hye, List.getElem?_eq_getElem hlt]; rfl)
      have hlt' : (k : Int) < (recs.length : Int) := by omega
      have hk0 : (0 : Int) ≤ (k : Int) := by omega
      have hwr : wrap64 ((k : Int) + 1) = (k : Int) + 1 := wrap_small _ (by omega) (by omega)
      clear hye
      gi_wp2
      refine hR.mono ?_
      rintro e W3 (⟨rfl, hJ3, hk3⟩ | ⟨rfl, hJx3⟩)
      · gi_wp2
        go_roundw
        case rel => exact ⟨k + 1, by omega, by simp, by rw [HIS.out]; exact hJ3, ck_t hck hk3⟩
        case measure => simp [intOf]; omega
      · gi_wp2
        refine bodyPost_ret (results_none rfl _ _ _) rfl ?_
        exact ⟨⟨_, rfl⟩, .inr ⟨_, ⟨k, hlt, HIS.out.symm⟩, hJx3⟩⟩
    · have hlt' : ¬ (k : Int) < (recs.length : Int) := by omega
      gi_wp2
      go_end0
      obtain rfl : k = recs.length := by omega
      first | exact ⟨⟨_, rfl⟩, .inl ⟨_, rfl, hJs⟩⟩ | exact ⟨⟨_, rfl⟩, .inl hJs⟩
/-- The iterator's contract. -/
theorem all_stops (n Bn nb B q p : Nat) (lv : Value) (recs : List BL) (br : Bool) (w : World) (hn : 1 ≤ n) (hBn : w.cell? ⟨Bn, 0, none⟩ = some (.pointer (some ⟨q, 0, none⟩))) (hL : LG w B q p lv recs br) (hnb : nb < w.heap.size) :
    SeqStopsK Fence.wide n Tryz.prog 44 #[.pointer (some ⟨Bn, 0, none⟩)] (fun x : Nat × BL => #[.int .i64 (x.1 : Int), .string (mkB x.2)]) (CK nb) (fun xs => xs = iu recs recs.length) (fun pre => ∃ k, k < recs.length ∧ pre = iu recs (k + 1)) recs.length w :=
  fun l J Jx W hW hJ _ hY h0 => all1_in n l Bn nb B q p lv recs br J Jx W hn hJ hY (pw_cell_below hW hBn) (hL.below hW) (Nat.lt_of_lt_of_le hnb hW.size) h0
set_option maxRecDepth 100000 in
set_option maxHeartbeats 8000000 in
theorem all1nil_in (n l Bn : Nat) (J : List (Nat × BL) → World → Prop) (W : World) (hn : 1 ≤ n) (hBn : W.cell? ⟨Bn, 0, none⟩ = some (.pointer none)) (h0 : J [] W) :
    CallsIn Fence.wide n Tryz.prog 44 #[.func (.yield l) #[] #[], .pointer (some ⟨Bn, 0, none⟩)] W fun e W' => (∃ v, e = .returned v) ∧ J [] W' := by
  have HF := Aside0.mk (fromNil_calls 0)
  refine callsIn_of_wp Tryz.func44 rfl trivial ?_ rfl
  simp only [Tryz.ntmps44, List.size_toArray, List.length_cons, List.length_nil, Nat.reduceAdd, Nat.reduceSub, Array.replicate_succ, Array.replicate_zero, List.push_toArray, List.append_toArray, List.nil_append, List.cons_append]
  gi_wp2_with (refine ⟨trivial, ?_⟩; gi_at_call 13; refine (callsIn_wide.2 (HF.out _)).mono ?_; rintro e W1 ⟨rfl, rfl⟩)
  gi_loopw [8] (fun i wr => i = .int .i64 0 ∧ J [] wr) (fun _ _ => 0)
  case atStart => exact ⟨rfl, h0⟩
  case round =>
    obtain ⟨rfl, hJs⟩ := hrel
    gi_wp2
    go_end0
    exact ⟨⟨_, rfl⟩, hJs⟩
theorem allNil_stops (n Bn : Nat) (w : World) (hn : 1 ≤ n) (hBn : w.cell? ⟨Bn, 0, none⟩ = some (.pointer none)) :
    SeqStopsK Fence.wide n Tryz.prog 44 #[.pointer (some ⟨Bn, 0, none⟩)] (fun x : Nat × BL => #[.int .i64 (x.1 : Int), .string (mkB x.2)]) (fun _ _ => True) (fun xs => xs = []) (fun _ => False) 0 w :=
  fun l J Jx W hW hJ _ hY h0 => (all1nil_in n l Bn J W hn (pw_cell_below hW hBn) h0).mono fun _ _ ⟨h1, h2⟩ => ⟨h1, .inl ⟨_, rfl, h2⟩⟩
set_option maxHeartbeats 8000000 in
theorem all_calls (v : Option Addr) (w : World) : Calls Tryz.prog 9 #[.pointer v] w fun e w' => e = .returned (.func (.func 44) #[] #[.pointer (some ⟨w.heap.size, 0, none⟩)]) ∧ w' = w.alloc (.cells #[.pointer v] 23) := by
  have hmf : ∀ (fn : Fn) (first cap : Array Value) (w : World), (Instr.makeFunc fn first cap).run Tryz.prog w = .ok (.func fn first cap) w := fun _ _ _ _ => rfl
  go_enter Tryz.func9, Tryz.ntmps9
  go_wp2_with (fail)
  go_ret
  exact ⟨rfl, rfl⟩
end Go.Proofs.YtmceikfbgmcmaaaGreatDoor.D

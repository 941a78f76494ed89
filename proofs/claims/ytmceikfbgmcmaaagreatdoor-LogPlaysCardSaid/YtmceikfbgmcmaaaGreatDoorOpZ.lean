/- The program's Append. Open Open Open -/
import Derived.Test.YtmceikfbgmcmaaaGreatDoorLgZ
import Derived.Test.YtmceikfbgmcmaaaGreatDoorDisA
import Derived.Deep.RegionHeld3
import Derived.Laws.AppendOwnNone
import Derived.Deep.CutBlock
namespace Go.Proofs.YtmceikfbgmcmaaaGreatDoor.D
open Go.RowKit Go.Extern.Stop Go.Stop Go.Extern Go.Proofs.YtmceikfbgmcmaaaGreatDoorW.PrintWords Go.Proofs.YtmceikfbgmcmaaaGreatDoorW.PrintLast Go.Proofs.YtmceikfbgmcmaaaGreatDoorW.PrintMore
set_option linter.unusedVariables false
set_option linter.unusedSimpArgs false
section
/-- What Append does: the disk, the records, whether the log is broken; the error and what it is of. -/
def appG (s : St) (recs : List BL) (br : Bool) (x : ByteArray) : St × List BL × Bool × Nat × ByteArray :=
  if br = true then (s, recs, br, 3, ⟨#[]⟩)
  else if 131072 < x.size ∨ 16384 ≤ recs.length then (s, recs, br, 4, ⟨#[]⟩)
  else if (appendF s (fileF (recs.length / 64 + 1)) (mkB (recF (tl x)))).2 = 0 then ((appendF s (fileF (recs.length / 64 + 1)) (mkB (recF (tl x)))).1, recs ++ [tl x], false, 0, ⟨#[]⟩)
  else ((appendF s (fileF (recs.length / 64 + 1)) (mkB (recF (tl x)))).1, recs, decide ((appendF s (fileF (recs.length / 64 + 1)) (mkB (recF (tl x)))).2 = 5), (appendF s (fileF (recs.length / 64 + 1)) (mkB (recF (tl x)))).2, fileF (recs.length / 64 + 1))
/-- What a call leaves as it was: all old blocks but those of X. -/
structure Ka (X : Nat → Prop) (w w' : World) : Prop where
  os : w'.os = w.os
  tape : w'.tape = w.tape
  output : w'.output = w.output
  size : w.heap.size ≤ w'.heap.size
  block : ∀ k, k < w.heap.size → ¬ X k → w'.heap[k]? = w.heap[k]?
theorem Ka.of {X : Nat → Prop} {w w' : World} (h : Below w.heap.size w w') : Ka X w w' := ⟨h.os, h.tape, h.output, h.size, fun k hk _ => h.block k hk⟩
theorem Ka.kp {X : Nat → Prop} {p b : Nat} {w w' : World} (h : Kp p b w w') (hp : X p) (hb : X b) : Ka X w w' := ⟨h.os, h.tape, h.output, h.size, fun k hk hx => h.block k hk (fun e => hx (e ▸ hp)) (fun e => hx (e ▸ hb))⟩
theorem Ka.trans {X : Nat → Prop} {u v w : World} (h : Ka X u v) (k : Ka X v w) : Ka X u w := ⟨k.os.trans h.os, k.tape.trans h.tape, k.output.trans h.output, Nat.le_trans h.size k.size, fun i hi hx => (k.block i (Nat.lt_of_lt_of_le hi h.size) hx).trans (h.block i hi hx)⟩
theorem Ka.set {X : Nat → Prop} {u v : World} {g i : Nat} (h : Ka X u v) (hg : X g ∨ u.heap.size ≤ g) (x : Value) : Ka X u (v.setCell ⟨g, i, none⟩ x) := by
  refine ⟨h.os, h.tape, h.output, by simpa using h.size, fun k hk hx => ?_⟩
  have hne : k ≠ g := fun e => by
    rcases hg with q | q
    · exact hx (e ▸ q)
    · omega
  exact (Below.heap_setCell v ⟨g, i, none⟩ x k hne).trans (h.block k hk hx)
theorem LG.kp {w w' : World} {B q p p' b' : Nat} {lv : Value} {recs : List BL} {br : Bool} (h : LG w B q p lv recs br) (hk : Kp p' b' w w') (h1 : q ≠ p') (h2 : q ≠ b') (h3 : ∀ g, lv.ownBlock = some g → g ≠ p' ∧ g ≠ b') : LG w' B q p lv recs br := by
  obtain ⟨a1, ⟨a2, a3⟩, a4⟩ := h
  refine ⟨(hk.block q (Array.getElem?_eq_some_iff.1 a1).1 h1 h2).trans a1, ⟨a2, ?_⟩, a4⟩
  rcases a3 with a3 | ⟨g, cap, cur, rfl, c1, c2, c3⟩
  · exact .inl a3
  · obtain ⟨d1, d2⟩ := h3 g rfl
    exact .inr ⟨g, cap, cur, rfl, c1, (hk.block g (Array.getElem?_eq_some_iff.1 c2).1 d1 d2).trans c2, c3⟩
theorem own_set {w : World} {B n q i : Nat} {v u : Value} {xs : List Value} (h : w.ownsRow B 9 1 v n xs) (hv : v.ownBlock ≠ some q) : (w.setCell ⟨q, i, none⟩ u).ownsRow B 9 1 v n xs := by
  obtain ⟨h1, h2⟩ := h
  refine ⟨h1, ?_⟩
  rcases h2 with h2 | ⟨g, cap, cur, rfl, c1, c2, c3⟩
  · exact .inl h2
  · have hg : g ≠ q := fun e => hv (by rw [e]; rfl)
    exact .inr ⟨g, cap, cur, rfl, c1, (Below.heap_setCell w ⟨q, i, none⟩ u g hg).trans c2, c3⟩
theorem LG.brk {w : World} {B q p : Nat} {lv : Value} {recs : List BL} {br : Bool} (h : LG w B q p lv recs br) (hq : lv.ownBlock ≠ some q) (b : Bool) : LG (w.setCell ⟨q, 2, none⟩ (.bool b)) B q p lv recs b :=
  ⟨by rw [heap_setCell_same w q 2 _ _ _ h.1]; rfl, own_set h.2.1 hq, h.2.2⟩
theorem LG.app {w w3 : World} {B q p : Nat} {lv v' : Value} {recs : List BL} {br : Bool} {x : BL} (h : LG w B q p lv recs br) (hr : w3.ownsRow B 9 1 v' (recs.length + 1) (recs.map encS ++ [encS x])) (hg : w.grownBy w3 lv.ownBlock) (hq : lv.ownBlock ≠ some q) (hvq : v'.ownBlock ≠ some q) (hl : recs.length + 1 ≤ 1000000) : LG (w3.setCell ⟨q, 1, none⟩ v') B q p v' (recs ++ [x]) br := by
  have h1 : w3.heap[q]? = some (.cells #[.pointer (some ⟨p, 0, none⟩), lv, .bool br] 70 (0, 0)) := (hg.block q (Array.getElem?_eq_some_iff.1 h.1).1 (fun e => hq e.symm)).trans h.1
  refine ⟨by rw [heap_setCell_same w3 q 1 _ _ _ h1]; rfl, ?_, by rw [List.length_append, List.length_singleton]; exact hl⟩
  rw [List.length_append, List.map_append]
  exact own_set hr hvq
theorem Ka.grown {X : Nat → Prop} {u v v' : World} {row : Option Nat} (h : Ka X u v) (hg : v.grownBy v' row) (hr : ∀ k, row = some k → X k ∨ u.heap.size ≤ k) : Ka X u v' := by
  refine ⟨hg.os.trans h.os, hg.tape.trans h.tape, hg.output.trans h.output, Nat.le_trans h.size hg.size, fun k hk hx => ?_⟩
  refine (hg.block k (Nat.lt_of_lt_of_le hk h.size) (fun e => ?_)).trans (h.block k hk hx)
  rcases hr k e.symm with q | q
  · exact hx q
  · omega
theorem DK.grown {w w' : World} {p b : Nat} {s : St} {row : Option Nat} (h : DK w p b s) (hg : w.grownBy w' row) (h1 : row ≠ some p) (h2 : row ≠ some b) : DK w' p b s :=
  ⟨(hg.block p h.lt (fun e => h1 e.symm)).trans h.1, h.2.1.kept (hg.block b h.ltb (fun e => h2 e.symm)), h.2.2⟩
theorem row_frz {w : World} {q i : Nat} {cs : Array Value} {t : TypeId} (h : w.heap[q]? = some (.cells cs t (0, 0))) : w.frozen? ⟨q, i, none⟩ = false := by
  unfold World.frozen?
  rw [h]
  show (decide (0 ≤ i) && decide (i < 0)) = false
  rw [decide_eq_false (Nat.not_lt_zero i), Bool.and_false]
theorem wrap_div (n : Nat) (h : n ≤ 1000000) : IntKind.i64.wrap (IntKind.i64.wrap ((n : Int) / 64) + 1) = ((n / 64 + 1 : Nat) : Int) := by
  simp [IntKind.wrap, IntKind.bits, IntKind.signed]
  omega
set_option maxHeartbeats 32000000 in
set_option maxRecDepth 100000 in
theorem lappend_calls (p b B q : Nat) (s : St) (lv : Value) (recs : List BL) (br : Bool) (x : ByteArray) (w : World) (hD : DK w p b s) (hL : LG w B q p lv recs br) (hq1 : q ≠ p) (hq2 : q ≠ b) (hlv : ∀ g, lv.ownBlock = some g → g ≠ p ∧ g ≠ b ∧ g ≠ q) (hB : B ≤ w.heap.size) (hT : ∀ W, Below w.heap.size w W → GT W) (hx : x.size ≤ 1000000) :
    Calls Tryz.prog 11 #[.pointer (some ⟨q, 0, none⟩), .string x] w fun e w' => ∃ v, e = .returned v ∧ Er w' w.heap.size v (appG s recs br x).2.2.2.1 (appG s recs br x).2.2.2.2 ∧ DK w' p b (appG s recs br x).1 ∧ (∃ lv', LG w' B q p lv' (appG s recs br x).2.1 (appG s recs br x).2.2.1 ∧ (lv'.ownBlock = lv.ownBlock ∨ ∃ g, lv'.ownBlock = some g ∧ w.heap.size ≤ g)) ∧ Ka (fun k => k = p ∨ k = b ∨ k = q ∨ lv.ownBlock = some k) w w' := by
  obtain ⟨c0, c1, c2⟩ := hL.cells
  have HD := Aside0.mk hD
  have HL := Aside0.mk hL
  have e0 := eqP
  cases br
  case true =>
    have HA : Aside0 (appG s recs true x = (s, recs, true, 3, ⟨#[]⟩)) := ⟨by unfold appG; rw [if_pos rfl]⟩
    rw [HA.out]
    clear hD hL hlv hT HA
    go_enter Tryz.func11, Tryz.ntmps11
    go_wp2_with (fail)
    refine (lfault_calls 3 (-1) _).mono ?_
    rintro e w1 ⟨rfl, rfl⟩
    have HB1 : Aside0 (Below w.heap.size w (w.alloc (.cells #[.int .i64 ((3 : Nat) : Int), .string ⟨#[]⟩, .int .i64 (-1), .nilIface] 100))) := ⟨(Below.refl _ _).alloc (Nat.le_refl _) _⟩
    go_wp2_with (fail)
    go_ret
    exact ⟨_, rfl, .inr ⟨by decide, _, rfl, Nat.le_refl _, by simp, by simp, by simp, by simp, by simp⟩, HD.out.below HB1.out, ⟨_, HL.out.below HB1.out, .inl rfl⟩, Ka.of HB1.out⟩
  case false =>
    have HOF := Aside0.mk (of_calls x w (by omega))
    by_cases h1 : 131072 < x.size
    · have HA : Aside0 (appG s recs false x = (s, recs, false, 4, ⟨#[]⟩)) := ⟨by unfold appG; rw [if_neg (by decide), if_pos (.inl h1)]⟩
      rw [HA.out]
      have n1 : ∀ (v : Value) (w : World), (binOp .neq 25 (.iface 98 v) .nilIface).run Tryz.prog w = .ok (.bool true) w := fun v w => by kernel_rfl
      clear hD hL hlv hT HA
      go_enter Tryz.func11, Tryz.ntmps11
      go_wp2_with (fail)
      refine HOF.out.mono ?_
      rintro e w1 ⟨hb1, ⟨h2, _⟩ | ⟨_, v, rfl, hE⟩⟩
      · omega
      · have HB1 := Aside0.mk hb1
        have HE := Aside0.mk hE
        obtain ⟨g, rfl⟩ : ∃ g, v = .iface 98 (.pointer (some ⟨g, 0, none⟩)) := by
          rcases hE with ⟨q0, _⟩ | ⟨_, g, e, _⟩
          · cases q0
          · exact ⟨g, e⟩
        clear hb1 hE
        go_wp2_with (fail)
        go_ret
        exact ⟨_, rfl, HE.out, HD.out.below HB1.out, ⟨_, HL.out.below HB1.out, .inl rfl⟩, Ka.of HB1.out⟩
    · obtain ⟨r, hr⟩ : ∃ r, mkB (recF (tl x)) = r := ⟨_, rfl⟩
      have hrs : r.size ≤ 1000012 := by rw [← hr, mkB_size, recF_len, tl_size]; omega
      obtain ⟨a, c, rfl, _, _⟩ := own_slice hL.2.1
      obtain ⟨n, hn⟩ : ∃ n, recs.length = n := ⟨_, rfl⟩
      rw [hr] at HOF
      rw [hn] at c1
      by_cases h2 : 16384 ≤ n
      · have h2' : (16384 : Int) ≤ (n : Int) := by omega
        have HA : Aside0 (appG s recs false x = (s, recs, false, 4, ⟨#[]⟩)) := ⟨by unfold appG; rw [if_neg (by decide), if_pos (.inr (by omega))]⟩
        rw [HA.out]
        clear hD hL hlv hT HA
        go_enter Tryz.func11, Tryz.ntmps11
        go_wp2_with (fail)
        refine HOF.out.mono ?_
        rintro e w1 ⟨hb1, ⟨_, rfl⟩ | ⟨h3, _⟩⟩
        · have HB1 := Aside0.mk hb1
          have d1 := pw_cell_below hb1 c1
          clear hb1
          go_wp2_with (fail)
          refine (lfault_calls 4 (-1) _).mono ?_
          rintro e w2 ⟨rfl, rfl⟩
          have HB2 : Aside0 (Below w.heap.size w (w1.alloc (.cells #[.int .i64 ((4 : Nat) : Int), .string ⟨#[]⟩, .int .i64 (-1), .nilIface] 100))) := ⟨below_step (w := w) HB1.out ((Below.refl _ _).alloc (Nat.le_refl _) _)⟩
          have hz := HB1.out.size
          go_wp2_with (fail)
          go_ret
          exact ⟨_, rfl, .inr ⟨by decide, _, rfl, hz, by simp, by simp, by simp, by simp, by simp⟩, HD.out.below HB2.out, ⟨_, HL.out.below HB2.out, .inl rfl⟩, Ka.of HB2.out⟩
        · omega
      · have h2' : ¬ (16384 : Int) ≤ (n : Int) := by omega
        obtain ⟨i0, hi0, hz0, hz1, hz2⟩ := info_parts infoS
        obtain ⟨nm, hnm⟩ : ∃ nm, fileF (n / 64 + 1) = nm := ⟨_, rfl⟩
        have hnms : nm.size = 12 := by rw [← hnm]; exact fileF_size _
        obtain ⟨⟨s', ec⟩, hap⟩ : ∃ z, appendF s nm r = z := ⟨_, rfl⟩
        have HA1 : Aside0 (ec = 0 → appG s recs false x = (s', recs ++ [tl x], false, 0, ⟨#[]⟩)) := ⟨fun q => by unfold appG; rw [if_neg (by decide), if_neg (by omega), hn, hnm, hr, hap, if_pos q]⟩
        have HA2 : Aside0 (ec ≠ 0 → appG s recs false x = (s', recs, decide (ec = 5), ec, nm)) := ⟨fun q => by unfold appG; rw [if_neg (by decide), if_neg (by omega), hn, hnm, hr, hap, if_neg q]⟩
        have HFI : Aside0 (∀ W, Below w.heap.size w W → Calls Tryz.prog 35 #[.int .i64 (IntKind.i64.wrap (IntKind.i64.wrap ((n : Int) / 64) + 1))] W fun e w' => e = .returned (.string nm) ∧ Below W.heap.size W w') := ⟨fun W hb => by
          have := file_calls (n / 64 + 1) W (by omega) (hT W hb)
          rw [hnm] at this
          rw [wrap_div n (by omega)]
          exact this⟩
        have HAP : Aside0 (∀ W, Below w.heap.size w W → Calls Tryz.prog 26 #[.pointer (some ⟨p, 0, none⟩), .string nm, .string r] W fun e w' => ∃ v, e = .returned v ∧ Er w' W.heap.size v ec nm ∧ DK w' p b s' ∧ Kp p b W w') := ⟨fun W hb => by
          have := append_calls p b s nm r W (hD.below hb) (by omega) (by omega)
          rw [hap] at this
          exact this⟩
        have HLV := Aside0.mk hlv
        have hlq := (Array.getElem?_eq_some_iff.1 hL.1).1
        have hpw := hD.lt
        have hbw := hD.ltb
        clear hD hL hlv hT hr hnm hap
        go_enter Tryz.func11, Tryz.ntmps11
        go_wp2_with (fail)
        refine HOF.out.mono ?_
        rintro e w1 ⟨hb1, ⟨_, rfl⟩ | ⟨h3, _⟩⟩
        · have HB1 := Aside0.mk hb1
          have d0 := pw_cell_below hb1 c0
          have d1 := pw_cell_below hb1 c1
          have zd0 : ∀ k, (w1.drewN k).cell? ⟨q, 0, none⟩ = some (.pointer (some ⟨p, 0, none⟩)) := fun _ => d0
          have zd1 : ∀ k, (w1.drewN k).cell? ⟨q, 1, none⟩ = some (.slice a n c) := fun _ => d1
          have HB1k := Aside0.mk (fun k => below_step (w := w) hb1 (pw_below_drewN (Below.refl _ _) k))
          have HB1d := Aside0.mk (below_drew1 hb1)
          clear hb1 c0 c1 c2
          go_wp2_with (fail)
          go_region_held3 (fun w' => w'.cell? ⟨q, 0, none⟩ = some (.pointer (some ⟨p, 0, none⟩)) ∧ w'.cell? ⟨q, 1, none⟩ = some (.slice a n c))
            (first | exact ⟨d0, d1⟩ | exact ⟨zd0 1, zd1 1⟩ | exact ⟨zd0 _, zd1 _⟩ | exact zf | exact za | go_keep)
            (first
              | (go_at_call 35; ((with_reducible refine (HFI.out _ (by first | exact HB1.out | exact HB1d.out | exact HB1k.out _)).mono ?_)); rintro e wf ⟨rfl, hb⟩; have HBf := Aside0.mk (below_step (w := w) (by first | exact HB1d.out | exact HB1.out | exact HB1k.out _) hb); have HBfk := Aside0.mk (fun k => below_step (w := w) HBf.out (pw_below_drewN (Below.refl _ _) k)); have HBfd := Aside0.mk (below_drew1 HBf.out); have zf : wf.cell? ⟨q, 0, none⟩ = some (.pointer (some ⟨p, 0, none⟩)) ∧ wf.cell? ⟨q, 1, none⟩ = some (.slice a n c) := ⟨pw_cell_below hb (by first | exact d0 | exact zd0 1 | exact zd0 _), pw_cell_below hb (by first | exact d1 | exact zd1 1 | exact zd1 _)⟩; clear hb)
              | (go_at_call 26; ((with_reducible refine (HAP.out _ (by first | exact HBf.out | exact HBfd.out | exact HBfk.out _)).mono ?_)); rintro e wa ⟨v, rfl, hE, hDa, hKa⟩; have HEa := Aside0.mk hE; have HDa := Aside0.mk hDa; have HKa := Aside0.mk (Kp.trans (Kp.of (by first | exact HBf.out | exact HBfd.out | exact HBfk.out _)) hKa); have hza := hKa.size; have za : wa.cell? ⟨q, 0, none⟩ = some (.pointer (some ⟨p, 0, none⟩)) ∧ wa.cell? ⟨q, 1, none⟩ = some (.slice a n c) := ⟨(hKa.cell (Nat.lt_of_lt_of_le hlq (by first | exact HBf.out.size | exact HBfd.out.size | exact (HBfk.out _).size)) hq1 hq2).trans zf.1, (hKa.cell (Nat.lt_of_lt_of_le hlq (by first | exact HBf.out.size | exact HBfd.out.size | exact (HBfk.out _).size)) hq1 hq2).trans zf.2⟩; clear hE hDa hKa))
          have HLA := Aside0.mk (HL.out.kp HKa.out hq1 hq2 (fun g e => ⟨(HLV.out g e).1, (HLV.out g e).2.1⟩))
          have HNQ : Aside0 ((Value.slice a recs.length c).ownBlock ≠ some q ∧ (Value.slice a recs.length c).ownBlock ≠ some p ∧ (Value.slice a recs.length c).ownBlock ≠ some b) := ⟨fun e => (HLV.out q e).2.2 rfl, fun e => (HLV.out p e).1 rfl, fun e => (HLV.out b e).2.1 rfl⟩
          rcases HEa.out with ⟨hec, rfl⟩ | ⟨hec, g, rfl, hg1, hg2, hF⟩
          · obtain ⟨za0, za1⟩ := za
            have hrow := HLA.out.2.1
            have HLB := Aside0.mk (HLA.out.below (w' := wa.alloc (.cells #[.string x] 9)) ((Below.refl _ _).alloc (Nat.le_refl _) _))
            have HDB := Aside0.mk (HDa.out.below (w1 := wa.alloc (.cells #[.string x] 9)) ((Below.refl _ _).alloc (Nat.le_refl _) _))
            rw [hn] at hrow HLB HNQ
            have hzk := HKa.out.size
            go_wp2_with (first
              | (at_builtin; refine wpList_append_own_at _ rfl _ _ 36 rfl B 9 i0 (.string ByteArray.empty) 1 16 Tryz.underlying36 hi0 hz0 hz1 hz2 rfl (by decide) _ n (recs.map encS) rfl (hrow.alloc _) ⟨wa.heap.size, 0, none⟩ 1 1 [.string x] rfl rfl (cell_one_new _ _ _) (by simp [Value.oneCell']) (by unfold maxLen; omega) (by omega) (by simp; omega) ?_; intro v' w3 hown' hg3 hnil3 hat3; obtain ⟨a', c', rfl, _, _⟩ := own_slice hown'; have h3q := (hg3.block q (Array.getElem?_eq_some_iff.1 HLB.out.1).1 (fun e => HNQ.out.1 e.symm)).trans HLB.out.1; have t1 : w3.cell? ⟨q, 1, none⟩ = some (.slice a n c) := (by rw [cell_of_row _ _ _ _ _ _ h3q]; rfl); have tf : w3.frozen? ⟨q, 1, none⟩ = false := row_frz h3q)
              | go_in)
            go_ret
            rw [HA1.out hec]
            have hvq : ∀ k, k < wa.heap.size → (Value.slice a n c).ownBlock ≠ some k → (Value.slice a' (n + 1) c').ownBlock ≠ some k := fun k hk h e => by
              rcases hat3 with q1 | q1
              · exact h (q1.symm.trans e)
              · rw [q1] at e
                injection e with e
                simp at e
                omega
            have hqa := (Array.getElem?_eq_some_iff.1 HLA.out.1).1
            have hdp := HDa.out.lt
            have hdb := HDa.out.ltb
            refine ⟨.nilIface, rfl, .inl ⟨rfl, rfl⟩, ?_, ⟨.slice a' (n + 1) c', ?_, ?_⟩, ?_⟩
            · exact (HDB.out.grown hg3 HNQ.out.2.1 HNQ.out.2.2).other hq1 hq2 _
            · refine LG.app (w := wa.alloc (.cells #[.string x] 9)) (lv := .slice a n c) HLB.out ?_ hg3 HNQ.out.1 (hvq q hqa HNQ.out.1) (by omega)
              rw [hn]
              have : encS (tl x) = .string x := by unfold encS; rw [mkB_tl]
              rw [this]
              exact hown'
            · rcases hat3 with q1 | q1
              · left
                rw [q1]
                exact congrArg (fun k => (Value.slice a k c).ownBlock) hn.symm
              · right
                exact ⟨_, q1, by simp; omega⟩
            · refine Ka.set (Ka.grown (Ka.trans (Ka.kp HKa.out (.inl rfl) (.inr (.inl rfl))) (Ka.of ((Below.refl _ _).alloc (Nat.le_refl _) _))) hg3 (fun k hk => .inl (.inr (.inr (.inr ?_))))) (.inl (.inr (.inr (.inl rfl)))) _
              have hk' : (Value.slice a n c).ownBlock = some k := hk
              rw [← hn] at hk'
              exact hk'
          · have HI := Aside0.mk (isErr_calls ec 5 _ _ nm wa HEa.out (by decide))
            have n1 : ∀ (v : Value) (w : World), (binOp .neq 25 (.iface 98 v) .nilIface).run Tryz.prog w = .ok (.bool true) w := fun v w => by kernel_rfl
            obtain ⟨za0, za1⟩ := za
            have hzk := HKa.out.size
            go_wp2_with (fail)
            refine HI.out.mono ?_
            rintro e w4 ⟨rfl, hb4⟩
            have HL4 := Aside0.mk (HLA.out.below hb4)
            have HD4 := Aside0.mk (HDa.out.below hb4)
            have HE4 := Aside0.mk (HEa.out.below hb4)
            have HB4 := Aside0.mk hb4
            have t2 := HL4.out.cells.2.2
            have tf : w4.frozen? ⟨q, 2, none⟩ = false := row_frz HL4.out.1
            clear hb4
            go_wp2_with (fail)
            go_ret
            rw [HA2.out (by omega)]
            have hgw : w.heap.size ≤ g := Nat.le_trans HBf.out.size hg1
            have hgq : q ≠ g := by omega
            refine ⟨.iface 98 (.pointer (some ⟨g, 0, none⟩)), rfl, ?_, ?_, ⟨_, ?_, .inl rfl⟩, ?_⟩
            · exact .inr ⟨hec, g, rfl, hgw, by have := HB4.out.size; simp; omega, (hF.below HB4.out).other hgq _⟩
            · exact HD4.out.other hq1 hq2 _
            · exact HL4.out.brk HNQ.out.1 _
            · exact Ka.set (Ka.trans (Ka.kp HKa.out (.inl rfl) (.inr (.inl rfl))) (Ka.of HB4.out)) (.inl (.inr (.inr (.inl rfl)))) _
        · omega
end
section
theorem slice_any (a : Option Addr) (n cap m : Nat) (ha : (a = none ∧ cap = 0) ∨ ∃ g, a = some ⟨g, 0, none⟩) (h1 : m ≤ cap) (W : World) : (Instr.slice 36 (.slice a n cap) none (some (.int .i64 (m : Int))) none).run Tryz.prog W = .ok (.slice a m cap) W := by
  rcases ha with ⟨rfl, rfl⟩ | ⟨g, rfl⟩
  · obtain rfl : m = 0 := by omega
    have hz : ∀ W, (sizeOf 9).run Tryz.prog W = .ok 1 W := fun W => by kernel_rfl
    simp [Instr.slice, Instr.sliceBounds, Instr.sliceBound, asIntOf, run_underlying Tryz.underlying36, hz, Result.andThen]
  · exact slice_to g n cap m h1 W
/-- What stands in a slice of texts. -/
theorem own_shape {w : World} {B n : Nat} {v : Value} {xs : List Value} (h : w.ownsRow B 9 1 v n xs) : ∃ a c, v = .slice a n c ∧ n ≤ c ∧ ((a = none ∧ c = 0) ∨ ∃ g, a = some ⟨g, 0, none⟩) ∧ (∀ g, a = some ⟨g, 0, none⟩ → ∀ i x, xs[i]? = some x → w.cell? ⟨g, i, none⟩ = some x) := by
  have hc := fun g hg => h.cells (g := g) hg
  rcases h.2 with ⟨rfl, h0⟩ | ⟨g, cap, cur, rfl, _, _, hn, _⟩
  · exact ⟨none, 0, by rw [h0], by omega, .inl ⟨rfl, rfl⟩, fun g e => by cases e⟩
  · refine ⟨_, _, rfl, hn, .inr ⟨g, rfl⟩, fun g' e i x hx => ?_⟩
    injection e with e
    injection e with e
    subst e
    have := hc g rfl i x hx
    rw [show ((⟨g, 0, none⟩ : Addr).add i) = ⟨g, i, none⟩ by simp [Addr.add]; omega] at this
    exact this
theorem append_spread {w : World} {ops : Array Oper} {rest : List Oper} {o : Oper} {a : Act} {Q : Exit → Act → World → Prop} (hgd : o.guard = none) (s x : Operand) (ho : o.op = .call { callee := .builtin .append, args := #[s, x], argTypes := #[36, 36] }) (base : Nat) (v : Value) (n : Nat) (xs : List Value) (hs : a.eval s = v) (hown : w.ownsRow base 9 1 v n xs) (ad : Option Addr) (m c : Nat) (news : List BL) (hx : a.eval x = .slice ad m c) (hsh : (ad = none ∧ c = 0) ∨ ∃ g, ad = some ⟨g, 0, none⟩) (hmc : m ≤ c) (hl : news.length = m) (hnews : ∀ g, ad = some ⟨g, 0, none⟩ → ∀ i u, (news.map encS)[i]? = some u → w.cell? ⟨g, i, none⟩ = some u) (h63 : n + m ≤ 10000000) (hbase : base ≤ w.heap.size)
    (h : ∀ v' w', w'.ownsRow base 9 1 v' (n + m) (xs ++ news.map encS) → w.grownBy w' v.ownBlock → (v'.ownBlock = v.ownBlock ∨ v'.ownBlock = some w.heap.size) → wpList Tryz.prog ops Q rest (a.put o.dst v') w') :
    wpList Tryz.prog ops Q (o :: rest) a w := by
  obtain ⟨i0, hi0, hz0, hz1, hz2⟩ := info_parts infoS
  rcases hsh with ⟨rfl, rfl⟩ | ⟨g, rfl⟩
  · obtain rfl : m = 0 := by omega
    have hn : news = [] := List.eq_nil_of_length_eq_zero hl
    subst hn
    exact wpList_append_own_none hgd s x 36 ho base 9 i0 1 Tryz.underlying36 hi0 v n xs hs hown hx (h v w (by simpa using hown) ⟨rfl, rfl, rfl, Nat.le_refl _, fun _ _ _ => rfl⟩ (.inl rfl))
  · refine wpList_append_own_at w hgd s x 36 ho base 9 i0 (.string ByteArray.empty) 1 16 Tryz.underlying36 hi0 hz0 hz1 hz2 rfl (by decide) v n xs hs hown ⟨g, 0, none⟩ m c (news.map encS) hx (by rw [List.length_map]; omega) (fun j u hj => ?_) (fun u hu => ?_) (by unfold maxLen; omega) (by omega) hbase (fun v' w' h1 h2 _ h4 => h v' w' h1 h2 h4)
    · rw [show ((⟨g, 0, none⟩ : Addr).add j) = ⟨g, j, none⟩ by simp [Addr.add]; omega]
      exact hnews g rfl j u hj
    · obtain ⟨b, _, rfl⟩ := List.mem_map.1 hu
      unfold encS
      simp [Value.oneCell']
theorem able_file (s : St) (n : Nat) (h : s.dead = false) : ableC s (fileF n) = 0 := by
  unfold ableC
  rw [fileF_size, if_neg (by decide), h]
  rfl
theorem there_some {s : St} {n : Nat} {x : ByteArray} (h : s.dead = false) (hx : lk s.L (fileF n) = some x) : thereC s (fileF n) = 0 ∧ lkD s.L (fileF n) = x := by
  refine ⟨?_, ?_⟩
  · unfold thereC
    rw [if_neg (by rw [able_file s n h]; decide), hx]
    rfl
  · unfold lkD
    rw [hx]
    rfl
theorem there_none {s : St} {n : Nat} (h : s.dead = false) (hx : lk s.L (fileF n) = none) : thereC s (fileF n) = 6 := by
  unfold thereC
  rw [if_neg (by rw [able_file s n h]; decide), hx]
  rfl
theorem there_dead {s : St} (n : Nat) (h : s.dead = true) : thereC s (fileF n) = 5 := by
  have : ableC s (fileF n) = 5 := by
    unfold ableC
    rw [fileF_size, if_neg (by decide), h]
    rfl
  unfold thereC
  rw [this]
  rfl
/-- A row of texts lies apart from a log, from a disk and its files. -/
theorem own_apart {w : World} {B n q : Nat} {v : Value} {xs : List Value} {o : Obj} (h : w.ownsRow B 9 1 v n xs) (hq : w.heap[q]? = some o) (ho : ∀ cur, o ≠ .cells cur 9 (0, 0)) : v.ownBlock ≠ some q := by
  rcases h.2 with ⟨rfl, h0⟩ | ⟨g, cap, cur, rfl, _, hg, _⟩
  · simp [Value.ownBlock]
  · intro e
    have e' : g = q := by simpa [Value.ownBlock] using e
    subst e'
    rw [hg] at hq
    injection hq with hq
    exact ho _ hq.symm
theorem own_low {w : World} {B n g : Nat} {v : Value} {xs : List Value} (h : w.ownsRow B 9 1 v n xs) (hg : v.ownBlock = some g) : B ≤ g := by
  rcases h.2 with ⟨rfl, h0⟩ | ⟨g', cap, cur, rfl, hb, _⟩
  · simp [Value.ownBlock] at hg
  · have e' : g' = g := by simpa [Value.ownBlock] using hg
    omega
end
section
/-- Open of no disk. -/
theorem lopenNil_calls (w : World) : Calls Tryz.prog 7 #[.pointer none] w fun e w' => ∃ v, e = .returned (.tuple #[.pointer none, v]) ∧ Er w' w.heap.size v 1 ⟨#[]⟩ ∧ Below w.heap.size w w' := by
  have e0 : ∀ (w : World), (binOp .eql 40 (.pointer none) (.pointer none)).run Tryz.prog w = .ok (.bool true) w := fun w => by kernel_rfl
  go_enter Tryz.func7, Tryz.ntmps7
  go_wp2_with (fail)
  refine (lfault_calls 1 (-1) _).mono ?_
  rintro e w1 ⟨rfl, rfl⟩
  go_wp2_with (fail)
  refine bodyPost_ret (results_list (rs := [_, _]) Tryz.results7 (by simp) (.tmp (.tmp .nil))) rfl ⟨_, rfl, .inr ⟨by decide, _, rfl, by simp, by simp, ⟨by simp, by simp, by simp, by simp⟩⟩, ?_⟩
  exact ((Below.refl _ _).alloc (Nat.le_refl _) _).alloc (by simp) _

set_option maxHeartbeats 8000000 in
/-- Open of a dead disk. -/
theorem lopenDead_calls (p b : Nat) (s : St) (w : World) (hD : DK w p b s) (hd : s.dead = true) (hT : ∀ W, Below w.heap.size w W → GT W) : Calls Tryz.prog 7 #[.pointer (some ⟨p, 0, none⟩)] w fun e w' => ∃ v, e = .returned (.tuple #[.pointer none, v]) ∧ Er w' w.heap.size v 5 (fileF 1) ∧ Below w.heap.size w w' := by
  have e0 : ∀ (v : Addr) (w : World), (binOp .eql 40 (.pointer (some v)) (.pointer none)).run Tryz.prog w = .ok (.bool false) w := fun v w => by kernel_rfl
  have n1 : ∀ (v : Value) (w : World), (binOp .neq 25 (.iface 98 v) .nilIface).run Tryz.prog w = .ok (.bool true) w := fun v w => by kernel_rfl
  obtain ⟨nm, hnm⟩ : ∃ nm, fileF 1 = nm := ⟨_, rfl⟩
  have hns : nm.size = 12 := by rw [← hnm]; exact fileF_size _
  have h5 := there_dead 1 hd
  have HFI : Aside0 (∀ W, Below w.heap.size w W → Calls Tryz.prog 35 #[.int .i64 1] W fun e w' => e = .returned (.string nm) ∧ Below W.heap.size W w') := ⟨fun W hb => by
    have := file_calls 1 W (by decide) (hT W hb)
    rw [hnm] at this
    exact this⟩
  have HRD : Aside0 (∀ W, Below w.heap.size w W → Calls Tryz.prog 34 #[.pointer (some ⟨p, 0, none⟩), .string nm] W fun e w' => ∃ v, e = .returned (.tuple #[.string ⟨#[]⟩, v]) ∧ Er w' W.heap.size v 5 nm ∧ Below W.heap.size W w') := ⟨fun W hb => by
    have := read_calls p b s nm W (hD.below hb) (by unfold maxLen; omega)
    rw [← hnm, h5, if_neg (by decide), hnm] at this
    exact this⟩
  rw [hnm]
  clear hD hT hnm h5 hd
  go_enter Tryz.func7, Tryz.ntmps7
  go_wp2_with (fail)
  have d0 : ((w.alloc (.cells #[.pointer (some ⟨p, 0, none⟩)] 40)).alloc (.cells #[.pointer (some ⟨p, 0, none⟩), .slice none 0 0, .bool false] 70)).cell? ⟨w.heap.size, 0, none⟩ = some (.pointer (some ⟨p, 0, none⟩)) := by simp
  have HB := Aside0.mk (((Below.refl w.heap.size w).alloc (Nat.le_refl _) (.cells #[.pointer (some ⟨p, 0, none⟩)] 40)).alloc (by simp) (.cells #[.pointer (some ⟨p, 0, none⟩), .slice none 0 0, .bool false] 70))
  obtain ⟨w1, hw1⟩ : ∃ w1, ((w.alloc (.cells #[.pointer (some ⟨p, 0, none⟩)] 40)).alloc (.cells #[.pointer (some ⟨p, 0, none⟩), .slice none 0 0, .bool false] 70)) = w1 := ⟨_, rfl⟩
  rw [hw1] at d0 HB ⊢
  clear hw1
  go_loopw [6] (fun v6 wr => v6 = .int .i64 1 ∧ Aside0 (w1 = wr)) (fun _ _ => 0)
  case atStart => exact ⟨rfl, ⟨rfl⟩⟩
  case round =>
    obtain ⟨rfl, HW⟩ := hrel
    obtain rfl := HW.out
    have zd0 : ∀ k, (w1.drewN k).cell? ⟨w.heap.size, 0, none⟩ = some (.pointer (some ⟨p, 0, none⟩)) := fun _ => d0
    have HB1k := Aside0.mk (fun k => below_step (w := w) HB.out (pw_below_drewN (Below.refl _ _) k))
    have HB1d := Aside0.mk (below_drew1 HB.out)
    go_wp2_with (fail)
    go_region_held3 (fun w' => w'.cell? ⟨w.heap.size, 0, none⟩ = some (.pointer (some ⟨p, 0, none⟩)))
      (first | exact d0 | exact zd0 1 | exact zd0 _ | exact zf | go_keep)
      (first
        | (go_at_call 35; ((with_reducible refine (HFI.out _ (by first | exact HB.out | exact HB1d.out | exact HB1k.out _)).mono ?_)); rintro e wf ⟨rfl, hb⟩; have HBf := Aside0.mk (below_step (w := w) (by first | exact HB1d.out | exact HB.out | exact HB1k.out _) hb); have HBfk := Aside0.mk (fun k => below_step (w := w) HBf.out (pw_below_drewN (Below.refl _ _) k)); have HBfd := Aside0.mk (below_drew1 HBf.out); have zf : wf.cell? ⟨w.heap.size, 0, none⟩ = some (.pointer (some ⟨p, 0, none⟩)) := pw_cell_below hb (by first | exact d0 | exact zd0 1 | exact zd0 _); clear hb)
        | (go_at_call 34; ((with_reducible refine (HRD.out _ (by first | exact HBf.out | exact HBfd.out | exact HBfk.out _)).mono ?_)); rintro e wa ⟨v, rfl, hE, hb⟩; have HEa := Aside0.mk hE; have HBa := Aside0.mk (below_step (w := w) (by first | exact HBf.out | exact HBfd.out | exact HBfk.out _) hb); have za := pw_cell_below hb zf; clear hE hb))
    have HIS := Aside0.mk (isErr_calls 5 6 _ _ nm wa HEa.out (by decide))
    obtain ⟨g, rfl, hg1⟩ : ∃ g, v = .iface 98 (.pointer (some ⟨g, 0, none⟩)) ∧ wf.heap.size ≤ g := by
      rcases HEa.out with ⟨q0, _⟩ | ⟨_, g, e, h1, _⟩
      · cases q0
      · exact ⟨g, e, h1⟩
    have hzf := HBf.out.size
    go_wp2_with (fail)
    refine HIS.out.mono ?_
    rintro e w2 ⟨rfl, hb2⟩
    have HE2 := Aside0.mk (HEa.out.below hb2)
    have HB2 := Aside0.mk (below_step (w := w) HBa.out hb2)
    clear hb2
    go_wp2_with (fail)
    refine bodyPost_ret (results_list (rs := [_, _]) Tryz.results7 (by simp) (.tmp (.tmp .nil))) rfl ⟨_, rfl, ?_, HB2.out⟩
    rcases HE2.out with ⟨q0, _⟩ | ⟨q1, g', e, h1, h2⟩
    · cases q0
    · exact .inr ⟨q1, g', e, by omega, h2⟩
end
section
theorem clean0_calls (w : World) : Calls Tryz.prog 33 #[] w fun e w' => e = .returned .nilIface ∧ w = w' := by
  go_enter Tryz.func33, Tryz.ntmps33
  go_wp2_with (fail)
  go_ret
  exact ⟨rfl, rfl⟩
theorem clean1_calls (p b a0 a1 a2 : Nat) (s : St) (name : ByteArray) (n : Int) (w : World) (h : DK w p b s) (hn : name.size ≤ 140737488351232) (c0 : w.cell? ⟨a0, 0, none⟩ = some (.pointer (some ⟨p, 0, none⟩))) (c1 : w.cell? ⟨a1, 0, none⟩ = some (.string name)) (c2 : w.cell? ⟨a2, 0, none⟩ = some (.int .i64 n)) : Calls Tryz.prog 39 #[.pointer (some ⟨a0, 0, none⟩), .pointer (some ⟨a1, 0, none⟩), .pointer (some ⟨a2, 0, none⟩)] w fun e w' => ∃ v, e = .returned v ∧ Er w' w.heap.size v (truncF s name n).2 name ∧ DK w' p b (truncF s name n).1 ∧ Kp p b w w' := by
  have HT := Aside0.mk (trunc_calls p b s name n w h hn)
  clear h
  go_enter Tryz.func39, Tryz.ntmps39
  go_wp2_with (fail)
  refine HT.out.mono ?_
  rintro e w' ⟨v, rfl, h⟩
  go_wp2_with (fail)
  go_ret
  exact ⟨v, rfl, h⟩
end
end Go.Proofs.YtmceikfbgmcmaaaGreatDoor.D

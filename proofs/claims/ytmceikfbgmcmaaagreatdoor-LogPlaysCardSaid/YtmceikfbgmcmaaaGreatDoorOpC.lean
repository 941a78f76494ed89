/- Open -/
import Derived.Test.YtmceikfbgmcmaaaGreatDoorOpZ
import Derived.Deep.RegionHeld3
import Derived.Deep.CutBlock
import Derived.Deep.RegionWith
namespace Go.Proofs.YtmceikfbgmcmaaaGreatDoor.D
open Go.RowKit Go.Extern.Stop Go.Stop Go.Extern Go.Proofs.YtmceikfbgmcmaaaGreatDoorW.PrintWords Go.Proofs.YtmceikfbgmcmaaaGreatDoorW.PrintLast Go.Proofs.YtmceikfbgmcmaaaGreatDoorW.PrintMore
set_option linter.unusedVariables false
set_option linter.unusedSimpArgs false
def BW (w : World) (p : Nat) (wx : World) (lv : Value) (acc : List BL) : Prop := Below w.heap.size w wx ∧ wx.heap[w.heap.size]? = some (.cells #[.pointer (some ⟨p, 0, none⟩)] 40 (0, 0)) ∧ LG wx w.heap.size (w.heap.size + 1) p lv acc false
def clean0 : Value := .func (.func 33) #[] #[]
/-- What is kept to be done last. -/
def CL (w : World) (wx : World) (v : Value) (t : Option (Nat × Nat)) : Prop := (t = none ∧ v = clean0) ∨ ∃ m k a1 a2, t = some (m, k) ∧ v = .func (.func 39) #[] #[.pointer (some ⟨w.heap.size, 0, none⟩), .pointer (some ⟨a1, 0, none⟩), .pointer (some ⟨a2, 0, none⟩)] ∧ w.heap.size < a1 ∧ w.heap.size < a2 ∧ wx.cell? ⟨a1, 0, none⟩ = some (.string (fileF m)) ∧ wx.cell? ⟨a2, 0, none⟩ = some (.int .i64 (k : Int))
theorem BW.start (p : Nat) (w : World) : BW w p ((w.alloc (.cells #[.pointer (some ⟨p, 0, none⟩)] 40)).alloc (.cells #[.pointer (some ⟨p, 0, none⟩), .slice none 0 0, .bool false] 70)) (.slice none 0 0) [] := by
  refine ⟨((Below.refl w.heap.size w).alloc (Nat.le_refl _) _).alloc (by simp) _, ?_, ⟨?_, ⟨rfl, .inl ⟨rfl, rfl⟩⟩, by simp⟩⟩
  · unfold World.alloc
    rw [Array.getElem?_push_lt (by simp)]
    simp
  · unfold World.alloc
    have : w.heap.size + 1 = (w.heap.push (.cells #[.pointer (some ⟨p, 0, none⟩)] 40)).size := by simp
    rw [this]
    exact Array.getElem?_push_size
theorem BW.below {w wr w2 : World} {p : Nat} {lv : Value} {acc : List BL} (h : BW w p wr lv acc) (hb : Below wr.heap.size wr w2) : BW w p w2 lv acc :=
  ⟨below_step h.1 hb, (hb.block _ (Array.getElem?_eq_some_iff.1 h.2.1).1).trans h.2.1, h.2.2.below hb⟩
theorem LG.apps {w w3 : World} {B q p m : Nat} {lv v' : Value} {recs news : List BL} {br : Bool} (h : LG w B q p lv recs br) (hm : news.length = m) (hr : w3.ownsRow B 9 1 v' (recs.length + m) (recs.map encS ++ news.map encS)) (hg : w.grownBy w3 lv.ownBlock) (hq : lv.ownBlock ≠ some q) (hvq : v'.ownBlock ≠ some q) (hl : recs.length + m ≤ 1000000) : LG (w3.setCell ⟨q, 1, none⟩ v') B q p v' (recs ++ news) br := by
  subst hm
  have h1 : w3.heap[q]? = some (.cells #[.pointer (some ⟨p, 0, none⟩), lv, .bool br] 70 (0, 0)) := (hg.block q (Array.getElem?_eq_some_iff.1 h.1).1 (fun e => hq e.symm)).trans h.1
  refine ⟨by rw [heap_setCell_same w3 q 1 _ _ _ h1]; rfl, ?_, by rw [List.length_append]; exact hl⟩
  rw [List.length_append, List.map_append]
  exact own_set hr hvq
theorem BW.q {w wi : World} {p : Nat} {lv : Value} {acc : List BL} (h : BW w p wi lv acc) : lv.ownBlock ≠ some (w.heap.size + 1) ∧ lv.ownBlock ≠ some w.heap.size ∧ w.heap.size + 1 < wi.heap.size :=
  ⟨own_apart h.2.2.2.1 h.2.2.1 (fun cur e => by injection e with _ e _; exact absurd e (by decide)), own_apart h.2.2.2.1 h.2.1 (fun cur e => by injection e with _ e _; exact absurd e (by decide)), (Array.getElem?_eq_some_iff.1 h.2.2.1).1⟩
theorem BW.app {w wi wz : World} {p m : Nat} {lv v' : Value} {acc news : List BL} (h : BW w p wi lv acc) (hm : news.length = m) (hr : wz.ownsRow w.heap.size 9 1 v' (acc.length + m) (acc.map encS ++ news.map encS)) (hg : wi.grownBy wz lv.ownBlock) (hat : v'.ownBlock = lv.ownBlock ∨ v'.ownBlock = some wi.heap.size) (hl : acc.length + m ≤ 1000000) : BW w p (wz.setCell ⟨w.heap.size + 1, 1, none⟩ v') v' (acc ++ news) := by
  obtain ⟨q1, q2, q3⟩ := h.q
  have hv : v'.ownBlock ≠ some (w.heap.size + 1) := fun e => by
    rcases hat with k | k
    · exact q1 (k.symm.trans e)
    · rw [k] at e
      injection e with e
      omega
  refine ⟨((h.1.grown hg (by omega) (fun k e => own_low h.2.2.2.1 e)).setCell (by simp) v'), ?_, h.2.2.apps hm hr hg q1 hv hl⟩
  rw [Below.heap_setCell _ _ _ _ (by simp)]
  exact (hg.block _ (by omega) (fun e => q2 e.symm)).trans h.2.1
theorem own_form {w : World} {B n : Nat} {v : Value} {xs : List Value} (h : w.ownsRow B 9 1 v n xs) : ∃ a c, v = .slice a n c := by
  obtain ⟨a, c, e, _⟩ := own_shape h
  exact ⟨a, c, e⟩
/-- What Open leaves and answers. -/
def OpenP (w : World) (p b : Nat) (s : St) (e : Ending) (w' : World) : Prop := DK w' p b (openF s).1 ∧ Kp p b w w' ∧ ((∃ recs lv, (openF s).2.1 = some recs ∧ e = .returned (.tuple #[.pointer (some ⟨w.heap.size + 1, 0, none⟩), .nilIface]) ∧ LG w' w.heap.size (w.heap.size + 1) p lv recs false) ∨ ((openF s).2.1 = none ∧ ∃ v, e = .returned (.tuple #[.pointer none, v]) ∧ Er w' w.heap.size v (openF s).2.2.1 (openF s).2.2.2 ∧ 0 < (openF s).2.2.1))
theorem open_bad {s s1 : St} {n c : Nat} {acc : List BL} {t : Option (Nat × Nat)} {k : ByteArray} (hd : s.dead = false) (h1 : scanF s.L (s.L.length + 1) 1 [] = (n, acc, t)) (h2 : cleanF n s (s.L.map (·.1)) = (s1, some (c, k))) : openF s = (s1, none, c, k) := by
  unfold openF
  rw [hd, if_neg (by decide), h1]
  simp only [h2]
theorem open_none {s s1 : St} {n : Nat} {acc : List BL} (hd : s.dead = false) (h1 : scanF s.L (s.L.length + 1) 1 [] = (n, acc, none)) (h2 : cleanF n s (s.L.map (·.1)) = (s1, none)) : openF s = (s1, some acc, 0, ⟨#[]⟩) := by
  unfold openF
  rw [hd, if_neg (by decide), h1]
  simp only [h2]
theorem open_cut {s s1 : St} {n m k : Nat} {acc : List BL} (hd : s.dead = false) (h1 : scanF s.L (s.L.length + 1) 1 [] = (n, acc, some (m, k))) (h2 : cleanF n s (s.L.map (·.1)) = (s1, none)) : openF s = if (truncF s1 (fileF m) (k : Int)).2 = 0 then ((truncF s1 (fileF m) (k : Int)).1, some acc, 0, ⟨#[]⟩) else ((truncF s1 (fileF m) (k : Int)).1, none, (truncF s1 (fileF m) (k : Int)).2, fileF m) := by
  unfold openF
  rw [hd, if_neg (by decide), h1]
  simp only [h2]
theorem CL.below {w wx wy : World} {v : Value} {t : Option (Nat × Nat)} (h : CL w wx v t) (hb : Below wx.heap.size wx wy) : CL w wy v t := by
  rcases h with h | ⟨m, k, a1, a2, h1, h2, h3, h4, h5, h6⟩
  · exact .inl h
  · exact .inr ⟨m, k, a1, a2, h1, h2, h3, h4, pw_cell_below hb h5, pw_cell_below hb h6⟩
theorem wrap_pred (n : Nat) (h1 : 1 ≤ n) (h : n ≤ 20000) : IntKind.i64.wrap ((n : Int) - 1) = ((n - 1 : Nat) : Int) := by
  simp [IntKind.wrap, IntKind.bits, IntKind.signed]
  omega
set_option maxHeartbeats 32000000 in
set_option maxRecDepth 100000 in
theorem lopenLive_calls (p b : Nat) (s : St) (w : World) (hD : DK w p b s) (hd : s.dead = false) (hT : ∀ W, Kp p b w W → GT W ∧ GS W) (hL : s.L.length ≤ 10000) (hKF : ∀ q ∈ s.L, q.1.size ≤ 128) : Calls Tryz.prog 7 #[.pointer (some ⟨p, 0, none⟩)] w fun e w' => OpenP w p b s e w' := by
  have e0 : ∀ (v : Addr) (w : World), (binOp .eql 40 (.pointer (some v)) (.pointer none)).run Tryz.prog w = .ok (.bool false) w := fun v w => by kernel_rfl
  have n1 : ∀ (v : Value) (w : World), (binOp .neq 25 (.iface 98 v) .nilIface).run Tryz.prog w = .ok (.bool true) w := fun v w => by kernel_rfl
  have HD := Aside0.mk hD
  have HT := Aside0.mk hT
  have hdd := Aside0.mk hd
  have hF : Aside0 (∀ n x, lk s.L (fileF n) = some x → x.size ≤ 16777216) := ⟨fun n x h => by
    have h2 := lk_size hD.2.2.2.2 (fileF n)
    unfold lkD at h2
    rw [h] at h2
    exact h2⟩
  have HKF := Aside0.mk hKF
  clear hD hT hd hKF
  go_enter Tryz.func7, Tryz.ntmps7
  go_upto_block 0 with fail
  have HB0 : Aside0 (BW w p ((w.alloc (.cells #[.pointer (some ⟨p, 0, none⟩)] 40)).alloc (.cells #[.pointer (some ⟨p, 0, none⟩), .slice none 0 0, .bool false] 70)) (.slice none 0 0) []) := ⟨BW.start p w⟩
  obtain ⟨w1, hw1⟩ : ∃ w1, ((w.alloc (.cells #[.pointer (some ⟨p, 0, none⟩)] 40)).alloc (.cells #[.pointer (some ⟨p, 0, none⟩), .slice none 0 0, .bool false] 70)) = w1 := ⟨_, rfl⟩
  rw [hw1] at HB0 ⊢
  clear hw1
  go_cut [5, 6] from 26 to 83 (fun v5 v6 wx => ∃ (n : Nat) (acc : List BL) (t : Option (Nat × Nat)) (lv : Value), v6 = .int .i64 n ∧ n ≤ 10001 ∧ Aside0 (scanF s.L (s.L.length + 1) 1 [] = (n, acc, t) ∧ CL w wx v5 t) ∧ Aside0 (BW w p wx lv acc))
  case first =>
    go_wp2_with (fail)
    go_loopw [5, 6] (fun v5 v6 wr => ∃ (n : Nat) (acc : List BL) (lv : Value), 1 ≤ n ∧ n ≤ 10001 ∧ v5 = clean0 ∧ v6 = .int .i64 n ∧ Aside0 (BW w p wr lv acc) ∧ Aside0 (n ≤ s.L.length + 1 ∧ (∀ j, 1 ≤ j → j < n → (lk s.L (fileF j)).isSome = true) ∧ acc.length ≤ 64 * (n - 1) ∧ scanF s.L (s.L.length + 1) 1 [] = scanF s.L (s.L.length + 2 - n) n acc)) (fun _ v6 _ => s.L.length + 2 - (intOf v6).toNat)
    case atStart => exact ⟨1, [], _, Nat.le_refl _, by decide, rfl, rfl, HB0, ⟨by omega, fun j h1 h2 => by omega, by simp, rfl⟩⟩
    case round =>
      obtain ⟨n, acc, lv, hn1, hn2, rfl, rfl, HBW, HS⟩ := hrel
      obtain ⟨nm, hnm⟩ : ∃ nm, fileF n = nm := ⟨_, rfl⟩
      have hns : nm.size = 12 := by rw [← hnm]; exact fileF_size _
      have HB := Aside0.mk HBW.out.1
      have HFI : Aside0 (∀ W, Below w.heap.size w W → Calls Tryz.prog 35 #[.int .i64 (n : Int)] W fun e w' => e = .returned (.string nm) ∧ Below W.heap.size W w') := ⟨fun W hb => by
        have := file_calls n W (by omega) (HT.out W (Kp.of hb)).1
        rw [hnm] at this
        exact this⟩
      have d0 : wr.cell? ⟨w.heap.size, 0, none⟩ = some (.pointer (some ⟨p, 0, none⟩)) := by rw [cell_of_row _ _ _ _ _ _ HBW.out.2.1]; rfl
      have zd0 : ∀ k, (wr.drewN k).cell? ⟨w.heap.size, 0, none⟩ = some (.pointer (some ⟨p, 0, none⟩)) := fun _ => d0
      have HB1k := Aside0.mk (fun k => pw_below_drewN (Below.refl wr.heap.size wr) k)
      have HB1d := Aside0.mk (below_drew1 (Below.refl wr.heap.size wr))
      have HB1 := Aside0.mk (Below.refl wr.heap.size wr)
      cases hlk : lk s.L nm with
      | none =>
        have h5 := there_none (n := n) hdd.out (by rw [hnm]; exact hlk)
        have HRD : Aside0 (∀ W, Below w.heap.size w W → Calls Tryz.prog 34 #[.pointer (some ⟨p, 0, none⟩), .string nm] W fun e w' => ∃ v, e = .returned (.tuple #[.string ⟨#[]⟩, v]) ∧ Er w' W.heap.size v 6 nm ∧ Below W.heap.size W w') := ⟨fun W hb => by
          have := read_calls p b s nm W (HD.out.below hb) (by unfold maxLen; omega)
          rw [← hnm, h5, if_neg (by decide), hnm] at this
          exact this⟩
        have HSC : Aside0 (scanF s.L (s.L.length + 1) 1 [] = (n - 1, acc, none)) := ⟨by
          rw [HS.out.2.2.2, show s.L.length + 2 - n = (s.L.length + 1 - n) + 1 by have := HS.out.1; omega]
          exact scan_none (by rw [hnm]; exact hlk)⟩
        clear h5 hnm hlk
        go_wp2_with (fail)
        go_region_held3 (fun w' => w'.cell? ⟨w.heap.size, 0, none⟩ = some (.pointer (some ⟨p, 0, none⟩)))
          (first | exact d0 | exact zd0 1 | exact zd0 _ | exact zf | go_keep)
          (first
            | (go_at_call 35; ((with_reducible refine (HFI.out _ (below_step (w := w) HB.out (by first | exact HB1.out | exact HB1d.out | exact HB1k.out _))).mono ?_)); rintro e wf ⟨rfl, hb⟩; have HBf := Aside0.mk (below_step (w := wr) (by first | exact HB1d.out | exact HB1.out | exact HB1k.out _) hb); have HBfk := Aside0.mk (fun k => below_step (w := wr) HBf.out (pw_below_drewN (Below.refl _ _) k)); have HBfd := Aside0.mk (below_drew1 HBf.out); have zf : wf.cell? ⟨w.heap.size, 0, none⟩ = some (.pointer (some ⟨p, 0, none⟩)) := pw_cell_below hb (by first | exact d0 | exact zd0 1 | exact zd0 _); clear hb)
            | (go_at_call 34; ((with_reducible refine (HRD.out _ (below_step (w := w) HB.out (by first | exact HBf.out | exact HBfd.out | exact HBfk.out _))).mono ?_)); rintro e wa ⟨v, rfl, hE, hb⟩; have HEa := Aside0.mk hE; have HBa := Aside0.mk (below_step (w := wr) (by first | exact HBf.out | exact HBfd.out | exact HBfk.out _) hb); have za := pw_cell_below hb zf; clear hE hb))
        have HIS := Aside0.mk (isErr_calls 6 6 _ _ nm wa HEa.out (by decide))
        obtain ⟨g, rfl, hg1⟩ : ∃ g, v = .iface 98 (.pointer (some ⟨g, 0, none⟩)) ∧ wf.heap.size ≤ g := by
          rcases HEa.out with ⟨q0, _⟩ | ⟨_, g, e, h1, _⟩
          · cases q0
          · exact ⟨g, e, h1⟩
        go_wp2_with (fail)
        refine HIS.out.mono ?_
        rintro e w2 ⟨rfl, hb2⟩
        have HB2 := Aside0.mk (below_step (w := wr) HBa.out hb2)
        clear hb2
        go_wp2_with (fail)
        go_meet
        exact ⟨n - 1, acc, none, lv, by first | (congr 1; omega) | (rw [show ((n - 1 : Nat) : Int) = (n : Int) - 1 by omega]), by omega, ⟨HSC.out, .inl ⟨rfl, rfl⟩⟩, ⟨HBW.out.below HB2.out⟩⟩
      | some x =>
        obtain ⟨h5, h6⟩ := there_some (n := n) hdd.out (by rw [hnm]; exact hlk)
        have hxs : x.size ≤ 16777216 := hF.out n x (by rw [hnm]; exact hlk)
        have HRD : Aside0 (∀ W, Below w.heap.size w W → Calls Tryz.prog 34 #[.pointer (some ⟨p, 0, none⟩), .string nm] W fun e w' => e = .returned (.tuple #[.string x, .nilIface]) ∧ Below W.heap.size W w') := ⟨fun W hb => by
          have := read_calls p b s nm W (HD.out.below hb) (by unfold maxLen; omega)
          rw [← hnm, h5, if_pos rfl, h6, hnm] at this
          refine this.mono ?_
          rintro e w' ⟨v, rfl, hE, hb⟩
          rcases hE with ⟨_, rfl⟩ | ⟨q0, _⟩
          · exact ⟨rfl, hb⟩
          · exact absurd q0 (by decide)⟩
        have HFA : Aside0 (∀ W, Calls Tryz.prog 37 #[.string x] W fun e w' => ∃ a c, (∃ u ev, e = .returned (.tuple #[.slice a (recsF (tl x)).length c, u, ev])) ∧ (recsF (tl x)).length ≤ c ∧ ((a = none ∧ c = 0) ∨ ∃ g, a = some ⟨g, 0, none⟩) ∧ (∀ g, a = some ⟨g, 0, none⟩ → ∀ (i : Nat) (y : BL), (recsF (tl x))[i]? = some y → w'.cell? ⟨g, i, none⟩ = some (encS y)) ∧ Below W.heap.size W w') := ⟨fun W => (fall_calls x W hxs).mono (by
          rintro e w' ⟨v, ⟨u, ev, rfl⟩, ho, hb⟩
          obtain ⟨a, c, rfl, h1, h2, h3⟩ := own_shape ho
          exact ⟨a, c, ⟨u, ev, rfl⟩, h1, h2, fun g e i y hy => h3 g e i (encS y) (by rw [List.getElem?_map, hy]; rfl), hb⟩)⟩
        have HSC := Aside0.mk hlk
        clear h5 h6 hlk
        have hN := Aside0.mk hnm
        clear hnm
        go_wp2_with (fail)
        go_region_held3 (fun w' => w'.cell? ⟨w.heap.size, 0, none⟩ = some (.pointer (some ⟨p, 0, none⟩)))
          (first | exact d0 | exact zd0 1 | exact zd0 _ | exact zf | go_keep)
          (first
            | (go_at_call 35; ((with_reducible refine (HFI.out _ (below_step (w := w) HB.out (by first | exact HB1.out | exact HB1d.out | exact HB1k.out _))).mono ?_)); rintro e wf ⟨rfl, hb⟩; have HBf := Aside0.mk (below_step (w := wr) (by first | exact HB1d.out | exact HB1.out | exact HB1k.out _) hb); have HBfk := Aside0.mk (fun k => below_step (w := wr) HBf.out (pw_below_drewN (Below.refl _ _) k)); have HBfd := Aside0.mk (below_drew1 HBf.out); have zf : wf.cell? ⟨w.heap.size, 0, none⟩ = some (.pointer (some ⟨p, 0, none⟩)) := pw_cell_below hb (by first | exact d0 | exact zd0 1 | exact zd0 _); clear hb)
            | (go_at_call 34; ((with_reducible refine (HRD.out _ (below_step (w := w) HB.out (by first | exact HBf.out | exact HBfd.out | exact HBfk.out _))).mono ?_)); rintro e wa ⟨rfl, hb⟩; have HBa := Aside0.mk (below_step (w := wr) (by first | exact HBf.out | exact HBfd.out | exact HBfk.out _) hb); have za := pw_cell_below hb zf; clear hb))
        go_wp2_with (fail)
        refine (isNil_calls 6 _).mono ?_
        rintro e w2 ⟨rfl, rfl⟩
        go_wp2_with (fail)
        refine (HFA.out _).mono ?_
        rintro e w3 ⟨a, c, ⟨u, ev, rfl⟩, hc, hsh, hcs, hb3⟩
        have HB3 := Aside0.mk (below_step (w := wr) HBa.out hb3)
        have HCS := Aside0.mk hcs
        have HSH := Aside0.mk hsh
        clear hb3 hcs hsh
        obtain ⟨R, hR⟩ : ∃ R, recsF (tl x) = R := ⟨_, rfl⟩
        have hG : got x = R.take 64 := by rw [← hR]; rfl
        obtain ⟨G, hGG⟩ : ∃ G, got x = G := ⟨_, rfl⟩
        have hug := used_got x
        have hsm := got_small x
        rw [hR] at hc HCS
        rw [hGG] at hug hsm hG
        obtain ⟨r, hr⟩ : ∃ r, R.length = r := ⟨_, rfl⟩
        have HGR : Aside0 (got x = G ∧ recsF (tl x) = R ∧ R.length = r ∧ G = R.take 64) := ⟨hGG, hR, hr, hG⟩
        have HUG : Aside0 (∀ j p, G[j]? = some p → usedF (G.take (j + 1)) = usedF (G.take j) + (12 + p.length)) := ⟨fun j p h => used_at h⟩
        have HUS : Aside0 (∀ j, usedF (G.take j) ≤ x.size) := ⟨fun j => Nat.le_trans (used_take G j) hug⟩
        have HSM := Aside0.mk hsm
        rw [hR, hr]
        rw [hr] at hc
        clear hR hGG hG hug hsm hr
        obtain ⟨m, hm⟩ : ∃ m, min r 64 = m := ⟨_, rfl⟩
        have hmn : (min (r : Int) 64).toNat = m := by omega
        have hmr : m ≤ r := by omega
        have hm64 : m ≤ 64 := by omega
        have HGM : Aside0 (G.length = m) := ⟨by have := HGR.out; rw [this.2.2.2, List.length_take]; omega⟩
        have HMN := Aside0.mk hmn
        have HMX : Aside0 (max (min (r : Int) 64) 0 = (m : Int)) := ⟨by omega⟩
        clear hm hmn
        go_wp2_with (fail)
        rw [HMN.out, HMX.out]
        clear HMN HMX
        obtain ⟨U, hU⟩ : ∃ U, w3.heap.size = U := ⟨_, rfl⟩
        have HW4 : Aside0 (Below w3.heap.size w3 (w3.alloc (.cells #[.int .i64 0] 3)) ∧ (w3.alloc (.cells #[.int .i64 0] 3)).heap[U]? = some (.cells #[.int .i64 (usedF (G.take 0) : Int)] 3 (0, 0))) := ⟨(Below.refl _ _).alloc (Nat.le_refl _) _, by
          unfold World.alloc
          rw [← hU]
          exact Array.getElem?_push_size⟩
        obtain ⟨w4, hw4⟩ : ∃ w4, w3.alloc (.cells #[.int .i64 0] 3) = w4 := ⟨_, rfl⟩
        rw [hw4] at HW4 ⊢
        clear hw4
        have HU := Aside0.mk hU
        have hUq : w.heap.size + 1 < U := by
          have h1 := (HBW.out.below HB3.out).q.2.2
          omega
        rw [hU]
        clear hU
        go_loopw [56] (fun v56 wi => ∃ i : Nat, i ≤ m ∧ v56 = .int .i64 i ∧ Aside0 (Below w3.heap.size w3 wi ∧ wi.heap[U]? = some (.cells #[.int .i64 (usedF (G.take i) : Int)] 3 (0, 0)))) (fun v56 _ => m - (intOf v56).toNat)
        case atStart => exact ⟨0, Nat.zero_le _, rfl, HW4⟩
        case round =>
          obtain ⟨i, hi, rfl, HWI⟩ := hrel
          by_cases h1 : i < m
          · have h1' : (i : Int) < (m : Int) := by omega
            have h0' : (0 : Int) ≤ (i : Int) := by omega
            have hGl := HGM.out
            obtain ⟨y, hy⟩ : ∃ y, G[i]? = some y := ⟨_, List.getElem?_eq_getElem (by omega)⟩
            obtain ⟨g, hg⟩ : ∃ g, a = some ⟨g, 0, none⟩ := by
              rcases HSH.out with ⟨_, q0⟩ | q0
              · omega
              · exact q0
            have c1 : wr.cell? ⟨g, i, none⟩ = some (encS y) := by
              have hy' : R[i]? = some y := by
                have h2 := hy
                rw [HGR.out.2.2.2, List.getElem?_take] at h2
                split at h2
                · exact h2
                · cases h2
              exact pw_cell_below HWI.out.1 (HCS.out g hg i y hy')
            unfold encS at c1
            have HUY := Aside0.mk (HUG.out i y hy)
            have hus1 := HUS.out (i + 1)
            rw [HUY.out] at hus1
            obtain ⟨u, hu⟩ : ∃ u, usedF (G.take i) = u := ⟨_, rfl⟩
            rw [hu] at HWI
            rw [hu] at HUY hus1
            obtain ⟨d, hd⟩ : ∃ d, 12 + y.length = d := ⟨_, rfl⟩
            have HSZ := Aside0.mk (fun W => size_calls (mkB y) W (by rw [mkB_size]; omega))
            rw [mkB_size, hd] at HSZ
            rw [hd] at HUY hus1
            have HWR : wrap64 ((u : Int) + (d : Int)) = ((u + d : Nat) : Int) := by rw [wrap_small _ (by omega) (by omega)]; omega
            have z0 : wr.cell? ⟨U, 0, none⟩ = some (.int .i64 (u : Int)) := by rw [cell_of_row _ _ _ _ _ _ HWI.out.2]; rfl
            have zz : ∀ k, (wr.drewN k).cell? ⟨U, 0, none⟩ = some (.int .i64 (u : Int)) := fun _ => z0
            have zf : wr.frozen? ⟨U, 0, none⟩ = false := row_frz HWI.out.2
            have HNX : Aside0 (Aside0 (Below w3.heap.size w3 (wr.setCell ⟨U, 0, none⟩ (.int .i64 ((u : Int) + (d : Int)))) ∧ (wr.setCell ⟨U, 0, none⟩ (.int .i64 ((u : Int) + (d : Int)))).heap[U]? = some (.cells #[.int .i64 ((u + d : Nat) : Int)] 3 (0, 0)))) := ⟨⟨HWI.out.1.setCell (by rw [HU.out]; exact Nat.le_refl _) _, by
              rw [heap_setCell_same _ _ _ _ _ _ HWI.out.2, show (u : Int) + (d : Int) = ((u + d : Nat) : Int) by omega]
              rfl⟩⟩
            clear hu hd hy hGl HWR
            subst hg
            go_wp2_with (fail)
            go_region_with (first | (go_at_call 38; refine (HSZ.out _).mono ?_; rintro e wy ⟨rfl, rfl⟩))
            all_goals go_wp2_with (fail)
            all_goals refine ⟨⟨i + 1, by omega, by simp, ?_⟩, by simp [intOf]; omega⟩
            all_goals (rw [HUY.out]; first | exact HNX.out | exact ⟨⟨below_drew1 HNX.out.out.1, HNX.out.out.2⟩⟩ | exact ⟨⟨pw_below_drewN HNX.out.out.1 _, HNX.out.out.2⟩⟩)
          · have h1' : ¬ (i : Int) < (m : Int) := by omega
            have hE : usedF (G.take i) = usedF G := by rw [List.take_of_length_le (by rw [HGM.out]; omega)]
            obtain ⟨u, hu⟩ : ∃ u, usedF G = u := ⟨_, rfl⟩
            rw [hE, hu] at HWI
            have HUE := Aside0.mk hu
            clear hE
            have HBI := Aside0.mk ((HBW.out.below HB3.out).below HWI.out.1)
            have HRW := Aside0.mk HBI.out.2.2.2.1
            have HQ := Aside0.mk HBI.out.q
            have hq1 := HBI.out.2.2.cells.2.1
            have hUI : U < wr.heap.size := (Array.getElem?_eq_some_iff.1 HWI.out.2).1
            have hbs : w.heap.size ≤ wr.heap.size := by omega
            have HQU : Aside0 (lv.ownBlock ≠ some U) := ⟨own_apart HBI.out.2.2.2.1 HWI.out.2 (fun cur e => by injection e with _ e _; exact absurd e (by decide))⟩
            have HCW : Aside0 (∀ g, a = some ⟨g, 0, none⟩ → ∀ i y, (G.map encS)[i]? = some y → wr.cell? ⟨g, i, none⟩ = some y) := ⟨fun g hg i y hy => by
              rw [List.getElem?_map] at hy
              cases h2 : G[i]? with
              | none => rw [h2] at hy; cases hy
              | some z =>
                rw [h2] at hy
                injection hy with hy
                subst hy
                rw [HGR.out.2.2.2, List.getElem?_take] at h2
                split at h2
                · exact pw_cell_below HWI.out.1 (HCS.out g hg i z h2)
                · cases h2⟩
            have hacc : acc.length ≤ 64 * (n - 1) := HS.out.2.2.1
            have hacc2 : acc.length + m ≤ 1000000 := by omega
            have hic : m ≤ c := by omega
            have hai : acc.length + m ≤ 10000000 := by omega
            have hug := used_got x
            rw [HGR.out.1, hu] at hug
            clear hu
            have hlx : lk s.L (fileF n) = some x := by rw [hN.out]; exact HSC.out
            have HT0 : Aside0 (scanF s.L (s.L.length + 1) 1 [] = scanF s.L ((s.L.length + 1 - n) + 1) n acc) := ⟨by
              rw [HS.out.2.2.2, show s.L.length + 2 - n = (s.L.length + 1 - n) + 1 by have := HS.out.1; omega]⟩
            have HT1 : Aside0 (u < x.size → scanF s.L (s.L.length + 1) 1 [] = (n, acc ++ G, some (n, u))) := ⟨fun q => by
              rw [HT0.out, scan_torn hlx (by rw [HGR.out.1, HUE.out]; exact q), HGR.out.1, HUE.out]⟩
            have HT2 : Aside0 (¬ u < x.size → m < 64 → scanF s.L (s.L.length + 1) 1 [] = (n, acc ++ G, none)) := ⟨fun q q2 => by
              rw [HT0.out, scan_last hlx (by rw [HGR.out.1, HUE.out]; exact q) (by rw [HGR.out.1, HGM.out]; exact q2), HGR.out.1]⟩
            have HT3 : Aside0 (¬ u < x.size → ¬ m < 64 → scanF s.L (s.L.length + 1) 1 [] = scanF s.L (s.L.length + 2 - (n + 1)) (n + 1) (acc ++ G)) := ⟨fun q q2 => by
              rw [HT0.out, scan_next hlx (by rw [HGR.out.1, HUE.out]; exact q) (by rw [HGR.out.1, HGM.out]; exact q2), HGR.out.1, show s.L.length + 2 - (n + 1) = s.L.length + 1 - n by omega]⟩
            have HT5 : Aside0 (∀ j, 1 ≤ j → j < n + 1 → (lk s.L (fileF j)).isSome = true) := ⟨fun j q1 q2 => by
              by_cases hj : j = n
              · subst hj
                rw [hlx]
                rfl
              · exact HS.out.2.1 j q1 (by omega)⟩
            have HT4 : Aside0 (n ≤ s.L.length) := ⟨files_le s.L n (by omega) (fun j q1 q2 => HT5.out j q1 (by omega))⟩
            clear hlx
            by_cases h2 : u < x.size
            · have h2' : (u : Int) < (x.size : Int) := by omega
              go_upto_region 22 with (first | (at_builtin; refine append_spread rfl _ _ rfl w.heap.size lv acc.length (acc.map encS) rfl HRW.out a m c G rfl HSH.out hic HGM.out HCW.out hai hbs ?_; intro v' wz hown' hg3 hat3; obtain ⟨a', c', rfl⟩ := own_form hown'; have HBZ := Aside0.mk (HBI.out.app HGM.out hown' hg3 hat3 hacc2); have hzr := (hg3.block _ HQ.out.2.2 (fun e => HQ.out.1 e.symm)).trans HBI.out.2.2.1; have hzu := (hg3.block U hUI (fun e => HQU.out e.symm)).trans HWI.out.2; have t1 : wz.cell? ⟨w.heap.size + 1, 1, none⟩ = some lv := (by rw [cell_of_row _ _ _ _ _ _ hzr]; rfl); have tf : wz.frozen? ⟨w.heap.size + 1, 1, none⟩ = false := row_frz hzr; have t2 : wz.cell? ⟨U, 0, none⟩ = some (.int .i64 (u : Int)) := (by rw [cell_of_row _ _ _ _ _ _ hzu]; rfl); have t5 : (wz.setCell ⟨w.heap.size + 1, 1, none⟩ (.slice a' (acc.length + m) c')).cell? ⟨U, 0, none⟩ = some (.int .i64 (u : Int)) := (World.cell?_setCell_other (h := fun q => by injection q with q _; omega) ..).trans t2; clear hown' hg3 hat3 hzr hzu) | go_in)
              clear t1 tf t2 hq1
              go_wp2_with (fail)
              refine (HFI.out _ HBZ.out.1).mono ?_
              rintro e wy ⟨rfl, hby⟩
              have HBY := Aside0.mk (HBZ.out.below hby)
              have t6 := pw_cell_below hby t5
              have hyq := HBY.out.q.2.2
              clear hby t5
              go_wp2_with (fail)
              go_meet
              exact ⟨n, acc ++ G, some (n, u), _, rfl, hn2, ⟨HT1.out h2, .inr ⟨n, u, wy.heap.size, U, rfl, rfl, by omega, by omega, by rw [hN.out]; simp, pw_cell_below ((Below.refl wy.heap.size wy).alloc (Nat.le_refl _) _) t6⟩⟩, ⟨HBY.out.below ((Below.refl wy.heap.size wy).alloc (Nat.le_refl _) _)⟩⟩
            · have h2' : ¬ (u : Int) < (x.size : Int) := by omega
              by_cases h3 : m < 64
              · have h3' : (m : Int) < 64 := by omega
                go_upto_region 24 with (first | (at_builtin; refine append_spread rfl _ _ rfl w.heap.size lv acc.length (acc.map encS) rfl HRW.out a m c G rfl HSH.out hic HGM.out HCW.out hai hbs ?_; intro v' wz hown' hg3 hat3; obtain ⟨a', c', rfl⟩ := own_form hown'; have HBZ := Aside0.mk (HBI.out.app HGM.out hown' hg3 hat3 hacc2); have hzr := (hg3.block _ HQ.out.2.2 (fun e => HQ.out.1 e.symm)).trans HBI.out.2.2.1; have hzu := (hg3.block U hUI (fun e => HQU.out e.symm)).trans HWI.out.2; have t1 : wz.cell? ⟨w.heap.size + 1, 1, none⟩ = some lv := (by rw [cell_of_row _ _ _ _ _ _ hzr]; rfl); have tf : wz.frozen? ⟨w.heap.size + 1, 1, none⟩ = false := row_frz hzr; have t2 : wz.cell? ⟨U, 0, none⟩ = some (.int .i64 (u : Int)) := (by rw [cell_of_row _ _ _ _ _ _ hzu]; rfl); have t5 : (wz.setCell ⟨w.heap.size + 1, 1, none⟩ (.slice a' (acc.length + m) c')).cell? ⟨U, 0, none⟩ = some (.int .i64 (u : Int)) := (World.cell?_setCell_other (h := fun q => by injection q with q _; omega) ..).trans t2; clear hown' hg3 hat3 hzr hzu) | go_in)
                clear t1 tf t2 hq1
                go_wp2_with (fail)
                go_meet
                exact ⟨n, acc ++ G, none, _, rfl, hn2, ⟨HT2.out h2 h3, .inl ⟨rfl, rfl⟩⟩, HBZ⟩
              · have h3' : ¬ (m : Int) < 64 := by omega
                go_upto_region 24 with (first | (at_builtin; refine append_spread rfl _ _ rfl w.heap.size lv acc.length (acc.map encS) rfl HRW.out a m c G rfl HSH.out hic HGM.out HCW.out hai hbs ?_; intro v' wz hown' hg3 hat3; obtain ⟨a', c', rfl⟩ := own_form hown'; have HBZ := Aside0.mk (HBI.out.app HGM.out hown' hg3 hat3 hacc2); have hzr := (hg3.block _ HQ.out.2.2 (fun e => HQ.out.1 e.symm)).trans HBI.out.2.2.1; have hzu := (hg3.block U hUI (fun e => HQU.out e.symm)).trans HWI.out.2; have t1 : wz.cell? ⟨w.heap.size + 1, 1, none⟩ = some lv := (by rw [cell_of_row _ _ _ _ _ _ hzr]; rfl); have tf : wz.frozen? ⟨w.heap.size + 1, 1, none⟩ = false := row_frz hzr; have t2 : wz.cell? ⟨U, 0, none⟩ = some (.int .i64 (u : Int)) := (by rw [cell_of_row _ _ _ _ _ _ hzu]; rfl); have t5 : (wz.setCell ⟨w.heap.size + 1, 1, none⟩ (.slice a' (acc.length + m) c')).cell? ⟨U, 0, none⟩ = some (.int .i64 (u : Int)) := (World.cell?_setCell_other (h := fun q => by injection q with q _; omega) ..).trans t2; clear hown' hg3 hat3 hzr hzu) | go_in)
                clear t1 tf t2 hq1
                go_wp2_with (fail)
                have hn3 := HT4.out
                exact ⟨⟨n + 1, acc ++ G, _, by omega, by omega, rfl, by simp, HBZ, ⟨by omega, HT5.out, by rw [List.length_append, HGM.out]; omega, HT3.out h2 h3⟩⟩, by simp [intOf]; omega⟩
  case rest =>
    obtain ⟨n, acc, t, lv, rfl, hn2, HX, HBW⟩ := hcut
    have HN := Aside0.mk (names_calls p b s wc (HD.out.below HBW.out.1))
    have d0 : wc.cell? ⟨w.heap.size, 0, none⟩ = some (.pointer (some ⟨p, 0, none⟩)) := by rw [cell_of_row _ _ _ _ _ _ HBW.out.2.1]; rfl
    obtain ⟨K, hK⟩ : ∃ K, s.L.map (·.1) = K := ⟨_, rfl⟩
    have HKs : Aside0 (∀ k ∈ K, k.size ≤ 128) := ⟨fun k hk => by
      rw [← hK] at hk
      obtain ⟨q, hq, rfl⟩ := List.mem_map.1 hk
      exact HKF.out q hq⟩
    have HKK := Aside0.mk hK
    rw [hdd.out, if_neg (by decide), hK] at HN
    have hplt := HD.out.lt
    have hblt := HD.out.ltb
    have hwc := HBW.out.1.size
    clear hK
    go_wp2_with (fail)
    refine HN.out.mono ?_
    rintro e wn ⟨vn, rfl, hNL, hbn⟩
    have HBn := Aside0.mk (HBW.out.below hbn)
    have HCn : Aside0 (CL w wn u5 t) := ⟨HX.out.2.below hbn⟩
    have HNL := Aside0.mk hNL
    have hKn : K.length = K.length := rfl
    obtain ⟨ga, cn, rfl⟩ : ∃ ga cn, vn = .slice ga K.length cn := by
      rcases hNL with ⟨rfl, h0⟩ | ⟨g, cap, rfl, _⟩
      · exact ⟨none, 0, by rw [h0]; rfl⟩
      · exact ⟨_, _, rfl⟩
    have hwn := HBn.out.1.size
    have hqn := HBn.out.q.2.2
    have hcn := hbn.size
    obtain ⟨kn, hkn⟩ : ∃ kn, K.length = kn := ⟨_, rfl⟩
    have HKn := Aside0.mk hkn
    rw [hkn]
    clear hbn hNL hKn d0 hkn
    have hkb : kn ≤ 65536 := by
      have h1 := HKn.out
      rw [← HKK.out, List.length_map] at h1
      have := HD.out.2.2.2.1
      omega
    go_wp2_with (fail)
    go_loopw [87] (fun v87 wr => ∃ (i : Nat) (s1 : St), i ≤ kn ∧ v87 = .int .i64 i ∧ Aside0 (DK wr p b s1 ∧ Kp p b wn wr ∧ cleanF n s K = cleanF n s1 (K.drop i))) (fun v87 _ => kn - (intOf v87).toNat)
    case atStart => exact ⟨0, s, Nat.zero_le _, rfl, ⟨HD.out.below HBn.out.1, Kp.refl _ _ _, by rw [List.drop_zero]⟩⟩
    case round =>
      obtain ⟨i, s1, hi, rfl, HR⟩ := hrel
      have hwr := HR.out.2.1.size
      have d0 : wr.cell? ⟨w.heap.size, 0, none⟩ = some (.pointer (some ⟨p, 0, none⟩)) := by
        rw [HR.out.2.1.cell (by omega) (by omega) (by omega), cell_of_row _ _ _ _ _ _ HBn.out.2.1]
        rfl
      by_cases h1 : i < kn
      · have h1' : (i : Int) < (kn : Int) := by omega
        have h0' : (0 : Int) ≤ (i : Int) := by omega
        have hKl := HKn.out
        obtain ⟨k, hk⟩ : ∃ k, K[i]? = some k := ⟨_, List.getElem?_eq_getElem (by omega)⟩
        have hks : k.size ≤ 128 := HKs.out k (List.mem_of_getElem? hk)
        obtain ⟨g, rfl, hg1, hg2, hgc⟩ : ∃ g, ga = some ⟨g, 0, none⟩ ∧ wc.heap.size ≤ g ∧ g < wn.heap.size ∧ wn.cell? ⟨g, i, none⟩ = some (.string k) := by
          rcases HNL.out with ⟨_, h0⟩ | ⟨g, cap, e, h2, h3, h4⟩
          · rw [h0] at hKl
            simp at hKl
            omega
          · injection e with e
            refine ⟨g, e, h2, h3, ?_⟩
            have := h4 i (by omega)
            rw [this]
            obtain ⟨hi2, e2⟩ := List.getElem?_eq_some_iff.1 hk
            rw [e2]
        have c1 : wr.cell? ⟨g, i, none⟩ = some (.string k) := by
          rw [HR.out.2.1.cell (by omega) (by omega) (by omega)]
          exact hgc
        have HDR : Aside0 (K.drop i = k :: K.drop (i + 1)) := ⟨by
          obtain ⟨hi2, e2⟩ := List.getElem?_eq_some_iff.1 hk
          rw [← e2]
          exact List.drop_eq_getElem_cons hi2⟩
        have HNU := Aside0.mk (number_calls k wr (by omega) (HT.out wr ((Kp.of HBn.out.1).trans HR.out.2.1)).1 (HT.out wr ((Kp.of HBn.out.1).trans HR.out.2.1)).2)
        obtain ⟨nk, hnk⟩ : ∃ nk, numberF k = nk := ⟨_, rfl⟩
        rw [hnk] at HNU
        have HNK := Aside0.mk hnk
        clear hnk hgc hk hKl
        go_wp2_with (fail)
        refine HNU.out.mono ?_
        rintro e w2 ⟨rfl, hb2⟩
        have HD2 := Aside0.mk (HR.out.1.below hb2)
        have HK2 := Aside0.mk (HR.out.2.1.trans (Kp.of hb2))
        have d2 := pw_cell_below hb2 d0
        have hw2 := hb2.size
        clear hb2 d0 c1
        by_cases h2 : n < nk
        · have h2' : (n : Int) < (nk : Int) := by omega
          have HRM := Aside0.mk (remove_calls p b s1 k w2 HD2.out (by omega))
          obtain ⟨⟨s2, ec⟩, hrm⟩ : ∃ z, removeF s1 k = z := ⟨_, rfl⟩
          rw [hrm] at HRM
          have HRR := Aside0.mk hrm
          clear hrm
          go_wp2_with (fail)
          refine HRM.out.mono ?_
          rintro e w3 ⟨v, rfl, hE, hD3, hK3⟩
          have HE := Aside0.mk hE
          have HD3 := Aside0.mk hD3
          have HK3 := Aside0.mk (HK2.out.trans hK3)
          clear hD3 hK3
          rcases hE with ⟨hec, rfl⟩ | ⟨hec, g', rfl, hg3, hg4, hF⟩
          · have HCC : Aside0 (cleanF n s K = cleanF n s2 (K.drop (i + 1))) := ⟨by
              rw [HR.out.2.2, HDR.out, clean_go (by rw [HNK.out]; exact h2) (by rw [HRR.out]; exact hec), HRR.out]⟩
            clear hec
            go_wp2_with (fail)
            exact ⟨⟨i + 1, s2, by omega, by simp, ⟨HD3.out, HK3.out, HCC.out⟩⟩, by simp [intOf]; omega⟩
          · have HCC : Aside0 (openF s = (s2, none, ec, k)) := ⟨open_bad hdd.out HX.out.1 (by
              rw [HKK.out, HR.out.2.2, HDR.out, clean_bad (by rw [HNK.out]; exact h2) (by rw [HRR.out]; show ec ≠ 0; omega), HRR.out])⟩
            clear hF
            go_wp2_with (fail)
            refine bodyPost_ret (results_list (rs := [_, _]) Tryz.results7 (by simp) (.tmp (.tmp .nil))) rfl ?_
            unfold OpenP
            rw [HCC.out]
            refine ⟨HD3.out, (Kp.of HBn.out.1).trans HK3.out, .inr ⟨rfl, _, rfl, ?_, hec⟩⟩
            rcases HE.out with ⟨q0, _⟩ | ⟨q1, g2, e, q2, q3⟩
            · omega
            · exact .inr ⟨q1, g2, e, by omega, q3⟩
        · have h2' : ¬ (n : Int) < (nk : Int) := by omega
          have HCC : Aside0 (cleanF n s K = cleanF n s1 (K.drop (i + 1))) := ⟨by
            rw [HR.out.2.2, HDR.out, clean_skip (by rw [HNK.out]; exact h2)]⟩
          go_wp2_with (fail)
          exact ⟨⟨i + 1, s1, by omega, by simp, ⟨HD2.out, HK2.out, HCC.out⟩⟩, by simp [intOf]; omega⟩
      · have h1' : ¬ (i : Int) < (kn : Int) := by omega
        have HCC : Aside0 (cleanF n s (s.L.map (·.1)) = (s1, none)) := ⟨by
          rw [HKK.out, HR.out.2.2, List.drop_eq_nil_of_le (by rw [HKn.out]; omega)]
          rfl⟩
        have HLG : Aside0 (LG wr w.heap.size (w.heap.size + 1) p lv acc false) := ⟨HBn.out.2.2.kp HR.out.2.1 (by omega) (by omega) (fun g e => by
          have := own_low HBn.out.2.2.2.1 e
          omega)⟩
        rcases HCn.out with ⟨rfl, rfl⟩ | ⟨m, kk, a1, a2, rfl, rfl, ha1, ha2, hc1, hc2⟩
        · have HO := Aside0.mk (open_none hdd.out HX.out.1 HCC.out)
          unfold clean0
          go_wp2_with (fail)
          refine (clean0_calls _).mono ?_
          rintro e w2 ⟨rfl, rfl⟩
          go_wp2_with (fail)
          refine bodyPost_ret (results_list (rs := [_, _]) Tryz.results7 (by simp) (.tmp (.tmp .nil))) rfl ?_
          unfold OpenP
          rw [HO.out]
          exact ⟨HR.out.1, (Kp.of HBn.out.1).trans HR.out.2.1, .inl ⟨acc, lv, rfl, rfl, HLG.out⟩⟩
        · have hl1 : a1 < wn.heap.size := World.block_lt_of_cell? wn _ hc1
          have hl2 : a2 < wn.heap.size := World.block_lt_of_cell? wn _ hc2
          have e1 : wr.cell? ⟨a1, 0, none⟩ = some (.string (fileF m)) := by
            rw [HR.out.2.1.cell (k := a1) hl1 (by omega) (by omega)]
            exact hc1
          have e2 : wr.cell? ⟨a2, 0, none⟩ = some (.int .i64 (kk : Int)) := by
            rw [HR.out.2.1.cell (k := a2) hl2 (by omega) (by omega)]
            exact hc2
          have HO := Aside0.mk (open_cut hdd.out HX.out.1 HCC.out)
          have HC1 := Aside0.mk (clean1_calls p b w.heap.size a1 a2 s1 (fileF m) (kk : Int) wr HR.out.1 (by rw [fileF_size]; decide) d0 e1 e2)
          obtain ⟨⟨s2, ec⟩, htr⟩ : ∃ z, truncF s1 (fileF m) (kk : Int) = z := ⟨_, rfl⟩
          rw [htr] at HC1 HO
          obtain ⟨nm, hnm⟩ : ∃ nm, fileF m = nm := ⟨_, rfl⟩
          rw [hnm] at HC1 HO
          clear hnm htr hc1 hc2 e1 e2 hl1 hl2 d0
          go_wp2_with (fail)
          refine HC1.out.mono ?_
          rintro e w3 ⟨v, rfl, hE, hD3, hK3⟩
          have HE := Aside0.mk hE
          have HD3 := Aside0.mk hD3
          have HK3 := Aside0.mk (HR.out.2.1.trans hK3)
          have HL3 : Aside0 (LG w3 w.heap.size (w.heap.size + 1) p lv acc false) := ⟨HLG.out.kp hK3 (by omega) (by omega) (fun g e => by
            have := own_low HBn.out.2.2.2.1 e
            omega)⟩
          clear hD3 hK3
          rcases hE with ⟨hec, rfl⟩ | ⟨hec, g', rfl, hg3, hg4, hF⟩
          · have HQ := Aside0.mk hec
            clear hec
            go_wp2_with (fail)
            refine bodyPost_ret (results_list (rs := [_, _]) Tryz.results7 (by simp) (.tmp (.tmp .nil))) rfl ?_
            unfold OpenP
            rw [HO.out, if_pos HQ.out]
            exact ⟨HD3.out, (Kp.of HBn.out.1).trans HK3.out, .inl ⟨acc, lv, rfl, rfl, HL3.out⟩⟩
          · clear hF
            go_wp2_with (fail)
            refine bodyPost_ret (results_list (rs := [_, _]) Tryz.results7 (by simp) (.tmp (.tmp .nil))) rfl ?_
            unfold OpenP
            rw [HO.out, if_neg (by show ¬ ec = 0; omega)]
            refine ⟨HD3.out, (Kp.of HBn.out.1).trans HK3.out, .inr ⟨rfl, _, rfl, ?_, hec⟩⟩
            rcases HE.out with ⟨q0, _⟩ | ⟨q1, g2, e, q2, q3⟩
            · omega
            · exact .inr ⟨q1, g2, e, by omega, q3⟩
end Go.Proofs.YtmceikfbgmcmaaaGreatDoor.D

/- Both disks: what a call leaves. The cells of a step. One step of both disks: 0. One step of both disks: 1. One step of both disks: 2. One step of both disks: 3. One step of both disks: 4. One step of both disks: Read. One step of both disks: 6. Both disks stand alike. One step of both disks. -/
import Derived.Test.YtcbgeakabchenaaGreatDoorRefS
import Derived.Test.YtcbgeakabchenaaGreatDoorRefQ
import Derived.Test.YtcbgeakabchenaaGreatDoorRefO1
import Derived.Test.YtcbgeakabchenaaGreatDoorRefO2
import Derived.Test.YtcbgeakabchenaaGreatDoorRefA
import Derived.Test.YtcbgeakabchenaaGreatDoorDisB
import Derived.Test.YtcbgeakabchenaaGreatDoorDisA
import Derived.Deep.RegionHeld3
namespace Go.Proofs.YtcbgeakabchenaaGreatDoor.D
open Go.RowKit Go.Extern.Stop Go.Stop Go.Extern Go.Proofs.YtcbgeakabchenaaGreatDoorW.PrintWords Go.Proofs.YtcbgeakabchenaaGreatDoorW.PrintLast Go.Proofs.YtcbgeakabchenaaGreatDoorW.PrintMore
set_option linter.unusedVariables false
set_option linter.unusedSimpArgs false
section
def Good (L : FS) : Prop := ∀ q ∈ L, ¬ badN q.1
theorem good_lay {L : FS} {k v : ByteArray} (h : Good L) (hk : ¬ badN k) : Good (lay L k v) := fun q hq => by
  rcases mem_lay _ _ _ _ hq with rfl | hq
  · exact hk
  · exact h q hq
theorem good_take {L : FS} {k : ByteArray} (h : Good L) : Good (take L k) := fun q hq => h q (mem_take _ _ _ hq)
theorem able_good {s : St} {name : ByteArray} (h : ableC s name = 0) : ¬ badN name := fun hb => by rw [ableC_bad hb] at h; omega
theorem there_good {s : St} {name : ByteArray} (h : thereC s name = 0) : ¬ badN name := fun hb => by rw [thereC_bad hb] at h; omega
theorem good_add {name : ByteArray} (hk : ¬ badN name) : ∀ (n : Nat) (s : St) (r : ByteArray), r.size < n → Good s.L → Good (addF s name r).1.L
  | 0, _, _, h, _ => absurd h (by omega)
  | n + 1, s, r, h, hg => by
    by_cases hr : rawOk s
    · by_cases h2 : r.size ≤ 32
      · rw [addF_last hr h2]; exact good_lay hg hk
      · rw [addF_more hr h2]
        exact good_add hk n _ _ (by rw [ByteArray.size_extract]; omega) (good_lay hg hk)
    · rw [addF_dead hr]; exact hg
theorem good_append {s : St} {name r : ByteArray} (h : Good s.L) : Good (appendF s name r).1.L := by
  unfold appendF
  split
  · exact h
  · rename_i h0
    split
    · exact good_add (able_good (Decidable.not_not.1 h0)) _ _ _ (Nat.lt_succ_self _) h
    · exact h
theorem good_put {s : St} {name r : ByteArray} (h : Good s.L) : Good (putF s name r).1.L := by
  unfold putF
  split
  · exact h
  · rename_i h0
    have hk := able_good (Decidable.not_not.1 h0)
    split
    · unfold putR
      split
      · split
        · exact good_lay h hk
        · exact good_add hk _ _ _ (Nat.lt_succ_self _) (good_lay h hk)
      · exact h
    · exact h
theorem good_trunc {s : St} {name : ByteArray} {n : Int} (h : Good s.L) : Good (truncF s name n).1.L := by
  unfold truncF
  split
  · exact h
  · rename_i h0
    have hk := there_good (Decidable.not_not.1 h0)
    split
    · exact h
    · split
      · exact good_lay h hk
      · exact h
theorem good_remove {s : St} {name : ByteArray} (h : Good s.L) : Good (removeF s name).1.L := by
  unfold removeF
  split
  · exact h
  · split
    · exact good_take h
    · exact h
theorem good_ren {s : St} {name tgt : ByteArray} (h : Good s.L) : Good (renF s name tgt).1.L := by
  unfold renF
  split
  · exact h
  · split
    · exact h
    · rename_i h1 h2
      unfold renR
      split
      · exact h
      · split
        · exact good_lay (good_take h) h2
        · exact h
theorem appendF_lt (s : St) (name r : ByteArray) : (appendF s name r).2 < 100 := by
  unfold appendF
  split
  · exact ableC_lt s name
  · split
    · show (if _ then 0 else 5) < 100
      split <;> omega
    · show 4 < 100; omega
theorem putF_lt (s : St) (name r : ByteArray) : (putF s name r).2 < 100 := by
  unfold putF
  split
  · exact ableC_lt s name
  · split
    · show (if _ then 0 else 5) < 100
      split <;> omega
    · show 4 < 100; omega
theorem truncF_lt (s : St) (name : ByteArray) (n : Int) : (truncF s name n).2 < 100 := by
  unfold truncF
  split
  · exact thereC_lt s name
  · split
    · show 2 < 100; omega
    · split
      · show 0 < 100; omega
      · show 5 < 100; omega
theorem removeF_lt (s : St) (name : ByteArray) : (removeF s name).2 < 100 := by
  unfold removeF
  split
  · exact thereC_lt s name
  · split
    · show 0 < 100; omega
    · show 5 < 100; omega
theorem renF_lt (s : St) (name tgt : ByteArray) : (renF s name tgt).2.1 < 100 := by
  unfold renF
  split
  · show 2 < 100; omega
  · split
    · show 2 < 100; omega
    · unfold renR
      split
      · exact thereC_lt s name
      · split
        · show 0 < 100; omega
        · show 5 < 100; omega
/-- Both disks, at w, in a heap that was B long: the program's has s, the document's t. -/
structure Half (B : Nat) (w0 w : World) (p b q g : Nat) (s t : St) : Prop where
  d : DK w p b s
  r : RK w q g t
  gs : Good s.L
  gt : Good t.L
  hp : B ≤ p
  hb : B ≤ b
  hq : B ≤ q
  hg : B ≤ g
  n1 : p ≠ q
  n2 : p ≠ g
  n3 : b ≠ q
  n4 : b ≠ g
  below : Below B w0 w
theorem Half.le {B : Nat} {w0 w : World} {p b q g : Nat} {s t : St} (h : Half B w0 w p b q g s t) : B ≤ w.heap.size := Nat.le_of_lt (Nat.lt_of_le_of_lt h.hp h.d.lt)
theorem Half.ge {B : Nat} {w0 w : World} {p b q g : Nat} {s t : St} (h : Half B w0 w p b q g s t) (hG : GE w0) (hB : 0 < B) : GE w := (h.below.cell (p := ⟨0, 0, none⟩) hB).trans hG
theorem Half.p {B : Nat} {w0 w w' : World} {p b q g : Nat} {s t s' : St} (h : Half B w0 w p b q g s t) (hd : DK w' p b s') (hk : Kp p b w w') (hs : Good s'.L) : Half B w0 w' p b q g s' t :=
  ⟨hd, h.r.kept hk h.n1.symm h.n3.symm h.n2.symm h.n4.symm, hs, h.gt, h.hp, h.hb, h.hq, h.hg, h.n1, h.n2, h.n3, h.n4, h.below.trans (hk.below h.hp h.hb h.le)⟩
theorem Half.rr {B : Nat} {w0 w w' : World} {p b q g g' : Nat} {s t t' : St} (h : Half B w0 w p b q g s t) (hr : RK w' q g' t') (hk : Kp q g w w') (hg : g' = g ∨ w.heap.size ≤ g') (ht : Good t'.L) : Half B w0 w' p b q g' s t' := by
  have hd := h.d.kept hk h.n1 h.n2 h.n3 h.n4
  have hb := h.below.trans (hk.below h.hq h.hg h.le)
  rcases hg with rfl | hg
  · exact ⟨hd, hr, h.gs, ht, h.hp, h.hb, h.hq, h.hg, h.n1, h.n2, h.n3, h.n4, hb⟩
  · have h1 := h.d.lt
    have h2 := h.d.ltb
    have h3 := h.le
    exact ⟨hd, hr, h.gs, ht, h.hp, h.hb, h.hq, by omega, h.n1, by omega, h.n3, by omega, hb⟩
theorem Half.b {B : Nat} {w0 w w' : World} {p b q g : Nat} {s t : St} (h : Half B w0 w p b q g s t) (hb : Below w.heap.size w w') : Half B w0 w' p b q g s t :=
  ⟨h.d.below hb, h.r.below hb, h.gs, h.gt, h.hp, h.hb, h.hq, h.hg, h.n1, h.n2, h.n3, h.n4, h.below.trans (hb.mono h.le)⟩
theorem Half.drew {B : Nat} {w0 w : World} {p b q g : Nat} {s t : St} (h : Half B w0 w p b q g s t) (n : Nat) : Half B w0 (w.drewN n) p b q g s t := h.b (pw_below_drewN (Below.refl _ _) n)
theorem Half.drew1 {B : Nat} {w0 w : World} {p b q g : Nat} {s t : St} (h : Half B w0 w p b q g s t) : Half B w0 w.drew p b q g s t := h.b (below_drew1 (Below.refl _ _))
theorem Er.kept' {w w1 : World} {lo c p b : Nat} {v : Value} {name : ByteArray} (h : Er w lo v c name) (hk : Kp p b w w1) (h1 : p < lo) (h2 : b < lo) : Er w1 lo v c name := h.kept hk h1 h2
theorem p_append {B : Nat} {w0 w : World} {p b q g : Nat} {s t : St} (name bytes : ByteArray) (h : Half B w0 w p b q g s t) (hn : name.size ≤ 140737488351232) (hb : bytes.size ≤ 140737488351232) : Calls Tryz.prog 20 #[.pointer (some ⟨p, 0, none⟩), .string name, .string bytes] w fun e w' => ∃ v, e = .returned v ∧ Er w' w.heap.size v (appendF s name bytes).2 name ∧ Half B w0 w' p b q g (appendF s name bytes).1 t ∧ Kp p b w w' :=
  (append_calls p b s name bytes w h.d hn hb).mono fun e w' ⟨v, h1, h2, h3, h4⟩ => ⟨v, h1, h2, h.p h3 h4 (good_append h.gs), h4⟩
theorem p_put {B : Nat} {w0 w : World} {p b q g : Nat} {s t : St} (name bytes : ByteArray) (h : Half B w0 w p b q g s t) (hn : name.size ≤ 140737488351232) (hb : bytes.size ≤ 140737488351232) : Calls Tryz.prog 21 #[.pointer (some ⟨p, 0, none⟩), .string name, .string bytes] w fun e w' => ∃ v, e = .returned v ∧ Er w' w.heap.size v (putF s name bytes).2 name ∧ Half B w0 w' p b q g (putF s name bytes).1 t ∧ Kp p b w w' :=
  (put_calls p b s name bytes w h.d hn hb).mono fun e w' ⟨v, h1, h2, h3, h4⟩ => ⟨v, h1, h2, h.p h3 h4 (good_put h.gs), h4⟩
theorem p_trunc {B : Nat} {w0 w : World} {p b q g : Nat} {s t : St} (name : ByteArray) (n : Int) (h : Half B w0 w p b q g s t) (hn : name.size ≤ 140737488351232) : Calls Tryz.prog 22 #[.pointer (some ⟨p, 0, none⟩), .string name, .int .i64 n] w fun e w' => ∃ v, e = .returned v ∧ Er w' w.heap.size v (truncF s name n).2 name ∧ Half B w0 w' p b q g (truncF s name n).1 t ∧ Kp p b w w' :=
  (trunc_calls p b s name n w h.d hn).mono fun e w' ⟨v, h1, h2, h3, h4⟩ => ⟨v, h1, h2, h.p h3 h4 (good_trunc h.gs), h4⟩
theorem p_remove {B : Nat} {w0 w : World} {p b q g : Nat} {s t : St} (name : ByteArray) (h : Half B w0 w p b q g s t) (hn : name.size ≤ 140737488351232) : Calls Tryz.prog 24 #[.pointer (some ⟨p, 0, none⟩), .string name] w fun e w' => ∃ v, e = .returned v ∧ Er w' w.heap.size v (removeF s name).2 name ∧ Half B w0 w' p b q g (removeF s name).1 t ∧ Kp p b w w' :=
  (remove_calls p b s name w h.d hn).mono fun e w' ⟨v, h1, h2, h3, h4⟩ => ⟨v, h1, h2, h.p h3 h4 (good_remove h.gs), h4⟩
theorem p_rename {B : Nat} {w0 w : World} {p b q g : Nat} {s t : St} (name tgt : ByteArray) (h : Half B w0 w p b q g s t) (hn : name.size ≤ 140737488351232) (ht : tgt.size ≤ 140737488351232) : Calls Tryz.prog 23 #[.pointer (some ⟨p, 0, none⟩), .string name, .string tgt] w fun e w' => ∃ v, e = .returned v ∧ Er w' w.heap.size v (renF s name tgt).2.1 (renF s name tgt).2.2 ∧ Half B w0 w' p b q g (renF s name tgt).1 t ∧ Kp p b w w' :=
  (rename_calls p b s name tgt w h.d hn ht).mono fun e w' ⟨v, h1, h2, h3, h4⟩ => ⟨v, h1, h2, h.p h3 h4 (good_ren h.gs), h4⟩
theorem r_append {B : Nat} {w0 w : World} {p b q g : Nat} {s t : St} (name bytes : ByteArray) (h : Half B w0 w p b q g s t) (hb : bytes.size ≤ 140737488351232) : Calls Tryz.prog 28 #[.pointer (some ⟨q, 0, none⟩), .string name, .string bytes] w fun e w' => e = .returned (.int .i64 (appendF t name bytes).2) ∧ ∃ g', Half B w0 w' p b q g' s (appendF t name bytes).1 ∧ Kp q g w w' :=
  (rappend_calls q g t name bytes w h.r hb).mono fun e w' ⟨h1, g', h2, h3, h4⟩ => ⟨h1, g', h.rr h2 h4 h3 (good_append h.gt), h4⟩
theorem r_put {B : Nat} {w0 w : World} {p b q g : Nat} {s t : St} (name bytes : ByteArray) (h : Half B w0 w p b q g s t) (hb : bytes.size ≤ 140737488351232) : Calls Tryz.prog 29 #[.pointer (some ⟨q, 0, none⟩), .string name, .string bytes] w fun e w' => e = .returned (.int .i64 (putF t name bytes).2) ∧ ∃ g', Half B w0 w' p b q g' s (putF t name bytes).1 ∧ Kp q g w w' :=
  (rput_calls q g t name bytes w h.r hb).mono fun e w' ⟨h1, g', h2, h3, h4⟩ => ⟨h1, g', h.rr h2 h4 h3 (good_put h.gt), h4⟩
theorem r_trunc {B : Nat} {w0 w : World} {p b q g : Nat} {s t : St} (name : ByteArray) (n : Int) (h : Half B w0 w p b q g s t) : Calls Tryz.prog 30 #[.pointer (some ⟨q, 0, none⟩), .string name, .int .i64 n] w fun e w' => e = .returned (.int .i64 (truncF t name n).2) ∧ ∃ g', Half B w0 w' p b q g' s (truncF t name n).1 ∧ Kp q g w w' :=
  (rtrunc_calls q g t name n w h.r).mono fun e w' ⟨h1, g', h2, h3, h4⟩ => ⟨h1, g', h.rr h2 h4 h3 (good_trunc h.gt), h4⟩
theorem r_remove {B : Nat} {w0 w : World} {p b q g : Nat} {s t : St} (name : ByteArray) (h : Half B w0 w p b q g s t) : Calls Tryz.prog 32 #[.pointer (some ⟨q, 0, none⟩), .string name] w fun e w' => e = .returned (.int .i64 (removeF t name).2) ∧ ∃ g', Half B w0 w' p b q g' s (removeF t name).1 ∧ Kp q g w w' :=
  (rremove_calls q g t name w h.r).mono fun e w' ⟨h1, g', h2, h3, h4⟩ => ⟨h1, g', h.rr h2 h4 h3 (good_remove h.gt), h4⟩
theorem r_rename {B : Nat} {w0 w : World} {p b q g : Nat} {s t : St} (name tgt : ByteArray) (h : Half B w0 w p b q g s t) : Calls Tryz.prog 31 #[.pointer (some ⟨q, 0, none⟩), .string name, .string tgt] w fun e w' => ∃ of, e = .returned (.tuple #[.int .i64 (renF t name tgt).2.1, .string of]) ∧ ((renF t name tgt).2.1 = 0 ∨ of = (renF t name tgt).2.2) ∧ ∃ g', Half B w0 w' p b q g' s (renF t name tgt).1 ∧ Kp q g w w' :=
  (rrename_calls q g t name tgt w h.r).mono fun e w' ⟨of, h1, h2, g', h3, h4, h5⟩ => ⟨of, h1, h2, g', h.rr h3 h5 h4 (good_ren h.gt), h5⟩
theorem Er.of0 {w : World} {lo c : Nat} {v : Value} {n1 of : ByteArray} (h : Er w lo v c n1) (ho : c = 0 ∨ of = n1) : Er w lo v c of := by
  rcases ho with rfl | rfl
  · rcases h with h | ⟨h, _⟩
    · exact .inl h
    · omega
  · exact h
end
section
abbrev Zc (W : World) (sb : Nat) (N T : ByteArray) (n : Int) : Prop := W.cell? ⟨sb, 1, none⟩ = some (.string N) ∧ W.cell? ⟨sb, 2, none⟩ = some (.string T) ∧ W.cell? ⟨sb, 3, none⟩ = some (.int .i64 n)
theorem zc_kp {W W' : World} {sb p b : Nat} {N T : ByteArray} {n : Int} (z : Zc W sb N T n) (hK : Kp p b W W') (h1 : sb ≠ p) (h2 : sb ≠ b) : Zc W' sb N T n := by
  have hl : sb < W.heap.size := World.block_lt_of_cell? W _ z.1
  exact ⟨(hK.cell hl h1 h2).trans z.1, (hK.cell hl h1 h2).trans z.2.1, (hK.cell hl h1 h2).trans z.2.2⟩
theorem zc_b {W W' : World} {sb : Nat} {N T : ByteArray} {n : Int} (z : Zc W sb N T n) (hb : Below W.heap.size W W') : Zc W' sb N T n := by
  have hl : sb < W.heap.size := World.block_lt_of_cell? W _ z.1
  exact ⟨(hb.cell (p := ⟨sb, 1, none⟩) hl).trans z.1, (hb.cell (p := ⟨sb, 2, none⟩) hl).trans z.2.1, (hb.cell (p := ⟨sb, 3, none⟩) hl).trans z.2.2⟩
theorem zc_new (w : World) (N T : ByteArray) (D n : Int) (k : Nat) : Zc ((w.alloc (.cells #[.int .i64 D, .string N, .string T, .int .i64 n] 28)).drewN k) w.heap.size N T n := by
  have hb := (MapKept.heap_alloc w (.cells #[.int .i64 D, .string N, .string T, .int .i64 n] 28)).1
  refine ⟨?_, ?_, ?_⟩ <;> exact (cell_of_row _ _ _ _ _ _ hb)
end
section
set_option maxHeartbeats 32000000 in
set_option maxRecDepth 100000 in
theorem does0 (B : Nat) (w0 : World) (p b q g : Nat) (s : St) (N T : ByteArray) (n : Int) (w : World) (h : Half B w0 w p b q g s s) (hG : GE w0) (hB : 0 < B) (hN : N.size ≤ 140737488351232) (hT : T.size ≤ 140737488351232) : Calls Tryz.prog 8 #[.pointer (some ⟨p, 0, none⟩), .pointer (some ⟨q, 0, none⟩), .agg #[.int .i64 0, .string N, .string T, .int .i64 n]] w fun e w' => e = .returned (.bool true) ∧ ∃ g' s', Half B w0 w' p b q g' s' s' := by
  have HA : Aside0 (∀ k, Half B w0 ((w.alloc (.cells #[.int .i64 0, .string N, .string T, .int .i64 n] 28)).drewN k) p b q g s s) := ⟨fun k => (h.b ((Below.refl _ _).alloc (Nat.le_refl _) _)).drew k⟩
  have HG := Aside0.mk hG
  have HB := Aside0.mk hB
  have HN := Aside0.mk hN
  have HT := Aside0.mk hT
  have hpl := h.d.lt
  have hbl := h.d.ltb
  have hql := h.r.lt
  have hgl := h.r.ltg
  have zw := fun k => zc_new w N T 0 n k
  have zw0 := zw 0
  clear h hG hB hN hT
  go_enter Tryz.func8, Tryz.ntmps8
  go_wp2_with (fail)
  go_region_held3 (fun w' => w'.cell? ⟨w.heap.size, 1, none⟩ = some (.string N) ∧ w'.cell? ⟨w.heap.size, 2, none⟩ = some (.string T) ∧ w'.cell? ⟨w.heap.size, 3, none⟩ = some (.int .i64 n)) (first | exact zi | exact zp | exact zr | exact zw 1 | exact zw _ | go_keep) (first | (go_at_call 20; refine (p_append N T (by first | exact HR1.out | exact HA.out 0 | exact HA.out 1 | exact HA.out _) HN.out HT.out).mono ?_; rintro e wp ⟨vp, rfl, hE, hH, hK⟩; first | (have HRP := Aside0.mk (show Half B w0 wp p b q g1 (appendF s N T).1 (appendF s N T).1 from hH); have HEB := Aside0.mk hE; have zp : Zc wp w.heap.size N T n := (zc_kp (zr) hK (by omega) (by omega)); clear hH hE hK) | (have HP1 := Aside0.mk (show Half B w0 wp p b q g (appendF s N T).1 s from hH); have HEA0 := Aside0.mk hE; have zp : Zc wp w.heap.size N T n := (zc_kp (by first | exact zw 0 | exact zw 1 | exact zw _) hK (by omega) (by omega)); clear hH hE hK)) | (go_at_call 28; refine (r_append N T (by first | exact HP1.out | exact HA.out 0 | exact HA.out 1 | exact HA.out _) HT.out).mono ?_; rintro e wr ⟨rfl, g1, hH, hK⟩; first | (have HPR := Aside0.mk (show Half B w0 wr p b q g1 (appendF s N T).1 (appendF s N T).1 from hH); have HEA := Aside0.mk (HEA0.out.kept' hK (by first | omega | (simp; omega)) (by first | omega | (simp; omega))); have zr : Zc wr w.heap.size N T n := (zc_kp (zp) hK (by omega) (by omega)); clear hH hK) | (have HR1 := Aside0.mk (show Half B w0 wr p b q g1 s (appendF s N T).1 from hH); have zr : Zc wr w.heap.size N T n := (zc_kp (by first | exact zw 0 | exact zw 1 | exact zw _) hK (by omega) (by omega)); clear hH hK)) | (go_at_call 19; refine (isE_calls _ _ _ vp N (by first | exact HEB.out | exact HEA.out) (by first | exact HRP.out.ge HG.out HB.out | exact HPR.out.ge HG.out HB.out) (appendF_lt _ _ _) HN.out).mono ?_; rintro e wi ⟨rfl, hb⟩; have HI : Aside0 (∃ g' s', Half B w0 wi p b q g' s' s') := ⟨_, _, (by first | exact HRP.out.b hb | exact HPR.out.b hb)⟩; have zi : Zc wi w.heap.size N T n := (by first | exact zc_b zp hb | exact zc_b zr hb); clear hb))
  all_goals (go_wp2_with (fail); go_ret; exact ⟨rfl, HI.out⟩)
end
section
set_option maxHeartbeats 32000000 in
set_option maxRecDepth 100000 in
theorem does1 (B : Nat) (w0 : World) (p b q g : Nat) (s : St) (N T : ByteArray) (n : Int) (w : World) (h : Half B w0 w p b q g s s) (hG : GE w0) (hB : 0 < B) (hN : N.size ≤ 140737488351232) (hT : T.size ≤ 140737488351232) : Calls Tryz.prog 8 #[.pointer (some ⟨p, 0, none⟩), .pointer (some ⟨q, 0, none⟩), .agg #[.int .i64 1, .string N, .string T, .int .i64 n]] w fun e w' => e = .returned (.bool true) ∧ ∃ g' s', Half B w0 w' p b q g' s' s' := by
  have HA : Aside0 (∀ k, Half B w0 ((w.alloc (.cells #[.int .i64 1, .string N, .string T, .int .i64 n] 28)).drewN k) p b q g s s) := ⟨fun k => (h.b ((Below.refl _ _).alloc (Nat.le_refl _) _)).drew k⟩
  have HG := Aside0.mk hG
  have HB := Aside0.mk hB
  have HN := Aside0.mk hN
  have HT := Aside0.mk hT
  have hpl := h.d.lt
  have hbl := h.d.ltb
  have hql := h.r.lt
  have hgl := h.r.ltg
  have zw := fun k => zc_new w N T 1 n k
  have zw0 := zw 0
  clear h hG hB hN hT
  go_enter Tryz.func8, Tryz.ntmps8
  go_wp2_with (fail)
  go_region_held3 (fun w' => w'.cell? ⟨w.heap.size, 1, none⟩ = some (.string N) ∧ w'.cell? ⟨w.heap.size, 2, none⟩ = some (.string T) ∧ w'.cell? ⟨w.heap.size, 3, none⟩ = some (.int .i64 n)) (first | exact zi | exact zp | exact zr | exact zw 1 | exact zw _ | go_keep) (first | (go_at_call 21; refine (p_put N T (by first | exact HR1.out | exact HA.out 0 | exact HA.out 1 | exact HA.out _) HN.out HT.out).mono ?_; rintro e wp ⟨vp, rfl, hE, hH, hK⟩; first | (have HRP := Aside0.mk (show Half B w0 wp p b q g1 (putF s N T).1 (putF s N T).1 from hH); have HEB := Aside0.mk hE; have zp : Zc wp w.heap.size N T n := (zc_kp (zr) hK (by omega) (by omega)); clear hH hE hK) | (have HP1 := Aside0.mk (show Half B w0 wp p b q g (putF s N T).1 s from hH); have HEA0 := Aside0.mk hE; have zp : Zc wp w.heap.size N T n := (zc_kp (by first | exact zw 0 | exact zw 1 | exact zw _) hK (by omega) (by omega)); clear hH hE hK)) | (go_at_call 29; refine (r_put N T (by first | exact HP1.out | exact HA.out 0 | exact HA.out 1 | exact HA.out _) HT.out).mono ?_; rintro e wr ⟨rfl, g1, hH, hK⟩; first | (have HPR := Aside0.mk (show Half B w0 wr p b q g1 (putF s N T).1 (putF s N T).1 from hH); have HEA := Aside0.mk (HEA0.out.kept' hK (by first | omega | (simp; omega)) (by first | omega | (simp; omega))); have zr : Zc wr w.heap.size N T n := (zc_kp (zp) hK (by omega) (by omega)); clear hH hK) | (have HR1 := Aside0.mk (show Half B w0 wr p b q g1 s (putF s N T).1 from hH); have zr : Zc wr w.heap.size N T n := (zc_kp (by first | exact zw 0 | exact zw 1 | exact zw _) hK (by omega) (by omega)); clear hH hK)) | (go_at_call 19; refine (isE_calls _ _ _ vp N (by first | exact HEB.out | exact HEA.out) (by first | exact HRP.out.ge HG.out HB.out | exact HPR.out.ge HG.out HB.out) (putF_lt _ _ _) HN.out).mono ?_; rintro e wi ⟨rfl, hb⟩; have HI : Aside0 (∃ g' s', Half B w0 wi p b q g' s' s') := ⟨_, _, (by first | exact HRP.out.b hb | exact HPR.out.b hb)⟩; have zi : Zc wi w.heap.size N T n := (by first | exact zc_b zp hb | exact zc_b zr hb); clear hb))
  all_goals (go_wp2_with (fail); go_ret; exact ⟨rfl, HI.out⟩)
end
section
set_option maxHeartbeats 32000000 in
set_option maxRecDepth 100000 in
theorem does2 (B : Nat) (w0 : World) (p b q g : Nat) (s : St) (N T : ByteArray) (n : Int) (w : World) (h : Half B w0 w p b q g s s) (hG : GE w0) (hB : 0 < B) (hN : N.size ≤ 140737488351232) (hT : T.size ≤ 140737488351232) : Calls Tryz.prog 8 #[.pointer (some ⟨p, 0, none⟩), .pointer (some ⟨q, 0, none⟩), .agg #[.int .i64 2, .string N, .string T, .int .i64 n]] w fun e w' => e = .returned (.bool true) ∧ ∃ g' s', Half B w0 w' p b q g' s' s' := by
  have HA : Aside0 (∀ k, Half B w0 ((w.alloc (.cells #[.int .i64 2, .string N, .string T, .int .i64 n] 28)).drewN k) p b q g s s) := ⟨fun k => (h.b ((Below.refl _ _).alloc (Nat.le_refl _) _)).drew k⟩
  have HG := Aside0.mk hG
  have HB := Aside0.mk hB
  have HN := Aside0.mk hN
  have HT := Aside0.mk hT
  have hpl := h.d.lt
  have hbl := h.d.ltb
  have hql := h.r.lt
  have hgl := h.r.ltg
  have zw := fun k => zc_new w N T 2 n k
  have zw0 := zw 0
  clear h hG hB hN hT
  go_enter Tryz.func8, Tryz.ntmps8
  go_wp2_with (fail)
  go_region_held3 (fun w' => w'.cell? ⟨w.heap.size, 1, none⟩ = some (.string N) ∧ w'.cell? ⟨w.heap.size, 2, none⟩ = some (.string T) ∧ w'.cell? ⟨w.heap.size, 3, none⟩ = some (.int .i64 n)) (first | exact zi | exact zp | exact zr | exact zw 1 | exact zw _ | go_keep) (first | (go_at_call 22; refine (p_trunc N n (by first | exact HR1.out | exact HA.out 0 | exact HA.out 1 | exact HA.out _) HN.out).mono ?_; rintro e wp ⟨vp, rfl, hE, hH, hK⟩; first | (have HRP := Aside0.mk (show Half B w0 wp p b q g1 (truncF s N n).1 (truncF s N n).1 from hH); have HEB := Aside0.mk hE; have zp : Zc wp w.heap.size N T n := (zc_kp (zr) hK (by omega) (by omega)); clear hH hE hK) | (have HP1 := Aside0.mk (show Half B w0 wp p b q g (truncF s N n).1 s from hH); have HEA0 := Aside0.mk hE; have zp : Zc wp w.heap.size N T n := (zc_kp (by first | exact zw 0 | exact zw 1 | exact zw _) hK (by omega) (by omega)); clear hH hE hK)) | (go_at_call 30; refine (r_trunc N n (by first | exact HP1.out | exact HA.out 0 | exact HA.out 1 | exact HA.out _)).mono ?_; rintro e wr ⟨rfl, g1, hH, hK⟩; first | (have HPR := Aside0.mk (show Half B w0 wr p b q g1 (truncF s N n).1 (truncF s N n).1 from hH); have HEA := Aside0.mk (HEA0.out.kept' hK (by first | omega | (simp; omega)) (by first | omega | (simp; omega))); have zr : Zc wr w.heap.size N T n := (zc_kp (zp) hK (by omega) (by omega)); clear hH hK) | (have HR1 := Aside0.mk (show Half B w0 wr p b q g1 s (truncF s N n).1 from hH); have zr : Zc wr w.heap.size N T n := (zc_kp (by first | exact zw 0 | exact zw 1 | exact zw _) hK (by omega) (by omega)); clear hH hK)) | (go_at_call 19; refine (isE_calls _ _ _ vp N (by first | exact HEB.out | exact HEA.out) (by first | exact HRP.out.ge HG.out HB.out | exact HPR.out.ge HG.out HB.out) (truncF_lt _ _ _) HN.out).mono ?_; rintro e wi ⟨rfl, hb⟩; have HI : Aside0 (∃ g' s', Half B w0 wi p b q g' s' s') := ⟨_, _, (by first | exact HRP.out.b hb | exact HPR.out.b hb)⟩; have zi : Zc wi w.heap.size N T n := (by first | exact zc_b zp hb | exact zc_b zr hb); clear hb))
  all_goals (go_wp2_with (fail); go_ret; exact ⟨rfl, HI.out⟩)
end
section
theorem isE_calls' (w : World) (lo c : Nat) (v : Value) (name : ByteArray) (h : Er w lo v c name) (hG : GE w) (hc : c < 100) (hn : name.size ≤ 140737488351232 ∨ c = 0) :
    Calls Tryz.prog 19 #[v, .int .i64 c, .string name, .int .i64 (-1)] w fun ev w' => ev = .returned (.bool true) ∧ Below w.heap.size w w' := by
  rcases hn with hn | rfl
  · exact isE_calls w lo c v name h hG hc hn
  · rcases h with ⟨_, rfl⟩ | ⟨h, _⟩
    · exact (isNo_calls w name (-1)).mono fun e w' ⟨h1, h2⟩ => ⟨h1, by rw [h2]; exact Below.refl _ _⟩
    · omega
set_option maxHeartbeats 32000000 in
set_option maxRecDepth 100000 in
theorem does3 (B : Nat) (w0 : World) (p b q g : Nat) (s : St) (N T : ByteArray) (n : Int) (w : World) (h : Half B w0 w p b q g s s) (hG : GE w0) (hB : 0 < B) (hN : N.size ≤ 140737488351232) (hT : T.size ≤ 140737488351232) : Calls Tryz.prog 8 #[.pointer (some ⟨p, 0, none⟩), .pointer (some ⟨q, 0, none⟩), .agg #[.int .i64 3, .string N, .string T, .int .i64 n]] w fun e w' => e = .returned (.bool true) ∧ ∃ g' s', Half B w0 w' p b q g' s' s' := by
  have HA : Aside0 (∀ k, Half B w0 ((w.alloc (.cells #[.int .i64 3, .string N, .string T, .int .i64 n] 28)).drewN k) p b q g s s) := ⟨fun k => (h.b ((Below.refl _ _).alloc (Nat.le_refl _) _)).drew k⟩
  have HG := Aside0.mk hG
  have HB := Aside0.mk hB
  have HN := Aside0.mk hN
  have HT := Aside0.mk hT
  have hpl := h.d.lt
  have hbl := h.d.ltb
  have hql := h.r.lt
  have hgl := h.r.ltg
  have zw := fun k => zc_new w N T 3 n k
  have zw0 := zw 0
  clear h hG hB hN hT
  go_enter Tryz.func8, Tryz.ntmps8
  go_wp2_with (fail)
  refine (p_rename N T (HA.out 0) HN.out HT.out).mono ?_
  rintro e wp ⟨vp, rfl, hE, hH, hK⟩
  have HP1 := Aside0.mk hH
  have HE1 := Aside0.mk hE
  obtain ⟨zp1, zp2, zp3⟩ := zc_kp zw0 hK (by omega) (by omega)
  clear hH hE hK zw zw0
  go_wp2_with (fail)
  refine (r_rename N T HP1.out).mono ?_
  rintro e wr ⟨of, rfl, ho, g1, hH, hK⟩
  have HPR := Aside0.mk hH
  have HE2 := Aside0.mk ((HE1.out.kept' hK (by first | omega | (simp; omega)) (by first | omega | (simp; omega))).of0 ho)
  have HS : Aside0 (of.size ≤ 140737488351232 ∨ (renF s N T).2.1 = 0) := ⟨by
    rcases ho with h | h
    · exact .inr h
    · left
      rw [h]
      unfold renF
      split
      · exact HN.out
      · split
        · exact HT.out
        · exact HN.out⟩
  clear hH hK ho
  go_wp2_with (fail)
  refine (isE_calls' _ _ _ vp of HE2.out (HPR.out.ge HG.out HB.out) (renF_lt _ _ _) HS.out).mono ?_
  rintro e wi ⟨rfl, hb⟩
  have HI := Aside0.mk (HPR.out.b hb)
  clear hb
  go_wp2_with (fail)
  go_ret
  exact ⟨rfl, _, _, HI.out⟩
end
section
set_option maxHeartbeats 32000000 in
set_option maxRecDepth 100000 in
theorem does4 (B : Nat) (w0 : World) (p b q g : Nat) (s : St) (N T : ByteArray) (n : Int) (w : World) (h : Half B w0 w p b q g s s) (hG : GE w0) (hB : 0 < B) (hN : N.size ≤ 140737488351232) (hT : T.size ≤ 140737488351232) : Calls Tryz.prog 8 #[.pointer (some ⟨p, 0, none⟩), .pointer (some ⟨q, 0, none⟩), .agg #[.int .i64 4, .string N, .string T, .int .i64 n]] w fun e w' => e = .returned (.bool true) ∧ ∃ g' s', Half B w0 w' p b q g' s' s' := by
  have HA : Aside0 (∀ k, Half B w0 ((w.alloc (.cells #[.int .i64 4, .string N, .string T, .int .i64 n] 28)).drewN k) p b q g s s) := ⟨fun k => (h.b ((Below.refl _ _).alloc (Nat.le_refl _) _)).drew k⟩
  have HG := Aside0.mk hG
  have HB := Aside0.mk hB
  have HN := Aside0.mk hN
  have HT := Aside0.mk hT
  have hpl := h.d.lt
  have hbl := h.d.ltb
  have hql := h.r.lt
  have hgl := h.r.ltg
  have zw := fun k => zc_new w N T 4 n k
  have zw0 := zw 0
  clear h hG hB hN hT
  go_enter Tryz.func8, Tryz.ntmps8
  go_wp2_with (fail)
  go_region_held3 (fun w' => w'.cell? ⟨w.heap.size, 1, none⟩ = some (.string N) ∧ w'.cell? ⟨w.heap.size, 2, none⟩ = some (.string T) ∧ w'.cell? ⟨w.heap.size, 3, none⟩ = some (.int .i64 n)) (first | exact zi | exact zp | exact zr | exact zw 1 | exact zw _ | go_keep) (first | (go_at_call 24; refine (p_remove N (by first | exact HR1.out | exact HA.out 0 | exact HA.out 1 | exact HA.out _) HN.out).mono ?_; rintro e wp ⟨vp, rfl, hE, hH, hK⟩; first | (have HRP := Aside0.mk (show Half B w0 wp p b q g1 (removeF s N).1 (removeF s N).1 from hH); have HEB := Aside0.mk hE; have zp : Zc wp w.heap.size N T n := (zc_kp (zr) hK (by omega) (by omega)); clear hH hE hK) | (have HP1 := Aside0.mk (show Half B w0 wp p b q g (removeF s N).1 s from hH); have HEA0 := Aside0.mk hE; have zp : Zc wp w.heap.size N T n := (zc_kp (by first | exact zw 0 | exact zw 1 | exact zw _) hK (by omega) (by omega)); clear hH hE hK)) | (go_at_call 32; refine (r_remove N (by first | exact HP1.out | exact HA.out 0 | exact HA.out 1 | exact HA.out _)).mono ?_; rintro e wr ⟨rfl, g1, hH, hK⟩; first | (have HPR := Aside0.mk (show Half B w0 wr p b q g1 (removeF s N).1 (removeF s N).1 from hH); have HEA := Aside0.mk (HEA0.out.kept' hK (by first | omega | (simp; omega)) (by first | omega | (simp; omega))); have zr : Zc wr w.heap.size N T n := (zc_kp (zp) hK (by omega) (by omega)); clear hH hK) | (have HR1 := Aside0.mk (show Half B w0 wr p b q g1 s (removeF s N).1 from hH); have zr : Zc wr w.heap.size N T n := (zc_kp (by first | exact zw 0 | exact zw 1 | exact zw _) hK (by omega) (by omega)); clear hH hK)) | (go_at_call 19; refine (isE_calls _ _ _ vp N (by first | exact HEB.out | exact HEA.out) (by first | exact HRP.out.ge HG.out HB.out | exact HPR.out.ge HG.out HB.out) (removeF_lt _ _) HN.out).mono ?_; rintro e wi ⟨rfl, hb⟩; have HI : Aside0 (∃ g' s', Half B w0 wi p b q g' s' s') := ⟨_, _, (by first | exact HRP.out.b hb | exact HPR.out.b hb)⟩; have zi : Zc wi w.heap.size N T n := (by first | exact zc_b zp hb | exact zc_b zr hb); clear hb))
  all_goals (go_wp2_with (fail); go_ret; exact ⟨rfl, HI.out⟩)
end
section
theorem has_eq {s : St} {N : ByteArray} (h : Good s.L) : ((lk s.L N).isSome && !s.dead) = decide (thereC s N = 0) := by
  by_cases hb : badN N
  · rw [thereC_bad hb]
    have hn : ¬ (lk s.L N).isSome = true := fun q => by
      obtain ⟨p, hp, e⟩ := (lk_some_iff s.L N).1 q
      exact h p hp (by rw [e]; exact hb)
    rw [Bool.eq_false_iff.2 hn]; rfl
  · cases hd : s.dead
    · cases hl : (lk s.L N).isSome
      · rw [thereC_none hb hd hl]; rfl
      · rw [thereC_some hb hd hl]; rfl
    · rw [thereC_dead hb hd]; simp
set_option maxHeartbeats 32000000 in
set_option maxRecDepth 100000 in
theorem does5 (B : Nat) (w0 : World) (p b q g : Nat) (s : St) (N T : ByteArray) (n : Int) (w : World) (h : Half B w0 w p b q g s s) (hG : GE w0) (hB : 0 < B) (hN : N.size ≤ 140737488351232) (hT : T.size ≤ 140737488351232) : Calls Tryz.prog 8 #[.pointer (some ⟨p, 0, none⟩), .pointer (some ⟨q, 0, none⟩), .agg #[.int .i64 5, .string N, .string T, .int .i64 n]] w fun e w' => e = .returned (.bool true) ∧ ∃ g' s', Half B w0 w' p b q g' s' s' := by
  have hgood := h.gs
  have HA : Aside0 (∀ k, Half B w0 ((w.alloc (.cells #[.int .i64 5, .string N, .string T, .int .i64 n] 28)).drewN k) p b q g s s) := ⟨fun k => (h.b ((Below.refl _ _).alloc (Nat.le_refl _) _)).drew k⟩
  have HG := Aside0.mk hG
  have HB := Aside0.mk hB
  have HN := Aside0.mk hN
  have HT := Aside0.mk hT
  have hpl := h.d.lt
  have hbl := h.d.ltb
  have hql := h.r.lt
  have hgl := h.r.ltg
  have zw := fun k => zc_new w N T 5 n k
  have zw0 := zw 0
  clear h hG hB hN hT
  go_enter Tryz.func8, Tryz.ntmps8
  go_wp2_with (fail)
  have hNm : N.size ≤ maxLen := by have := HN.out; unfold maxLen; omega
  have HNM := Aside0.mk hNm
  clear hNm
  obtain ⟨c, hc⟩ : ∃ c, thereC s N = c := ⟨_, rfl⟩
  obtain ⟨X, hX⟩ : ∃ X, (if thereC s N = 0 then lkD s.L N else ⟨#[]⟩) = X := ⟨_, rfl⟩
  have HRD := Aside0.mk (fun W (hW : Half B w0 W p b q g s s) => (by have := read_calls p b s N W hW.d HNM.out; rw [hX, hc] at this; exact this : Calls Tryz.prog 17 #[.pointer (some ⟨p, 0, none⟩), .string N] W fun e w' => ∃ v, e = .returned (.tuple #[.string X, v]) ∧ Er w' W.heap.size v c N ∧ Below W.heap.size W w'))
  have HSZ := Aside0.mk (fun W (hW : Half B w0 W p b q g s s) => (by have := size_calls p b s N W hW.d HNM.out; rw [hX, hc] at this; exact this : Calls Tryz.prog 18 #[.pointer (some ⟨p, 0, none⟩), .string N] W fun e w' => ∃ v, e = .returned (.tuple #[.int .i64 X.size, v]) ∧ Er w' W.heap.size v c N ∧ Below W.heap.size W w'))
  have HRR := Aside0.mk (fun W (hW : Half B w0 W p b q g s s) => (by have := rread_calls q g s N W hW.r; rw [hX, hc] at this; exact this : Calls Tryz.prog 33 #[.pointer (some ⟨q, 0, none⟩), .string N] W fun e w' => e = .returned (.tuple #[.string X, .int .i64 c]) ∧ ∃ k, w' = W.drewN k))
  have HH1 := Aside0.mk (fun W (hW : Half B w0 W p b q g s s) => (by have := has_calls p b s N W hW.d HNM.out; rw [hc] at this; exact this.mono fun e w' h => ⟨h.1, h.2.symm⟩ : Calls Tryz.prog 27 #[.pointer (some ⟨p, 0, none⟩), .string N] W fun e w' => e = .returned (.bool (decide (c = 0))) ∧ W = w'))
  have HH2 := Aside0.mk (fun W (hW : Half B w0 W p b q g s s) => (by have := rhas_calls q g s N W hW.r; rw [has_eq hgood, hc] at this; exact this : Calls Tryz.prog 34 #[.pointer (some ⟨q, 0, none⟩), .string N] W fun e w' => e = .returned (.bool (decide (c = 0))) ∧ ∃ k, w' = W.drewN k))
  have HCL : Aside0 (c < 100) := ⟨by rw [← hc]; exact thereC_lt s N⟩
  clear hX hc hgood
  generalize decide (c = 0) = r at *
  refine (HRD.out _ (HA.out 0)).mono ?_
  rintro e w1 ⟨v1, rfl, hE, hb⟩
  have HE1 := Aside0.mk hE
  have HA1 := Aside0.mk ((HA.out 0).b hb)
  have z1 := zc_b zw0 hb
  obtain ⟨z11, z12, z13⟩ := z1
  clear hE hb
  go_wp2_with (fail)
  refine (HSZ.out _ HA1.out).mono ?_
  rintro e w2 ⟨v2, rfl, hE, hb⟩
  have HE2 := Aside0.mk hE
  have HE1b := Aside0.mk (HE1.out.below hb)
  have HA2 := Aside0.mk (HA1.out.b hb)
  have z2 := zc_b ⟨z11, z12, z13⟩ hb
  obtain ⟨z21, z22, z23⟩ := z2
  clear hE hb z11 z12 z13
  go_wp2_with (fail)
  refine (HRR.out _ HA2.out).mono ?_
  rintro e w3 ⟨rfl, k3, rfl⟩
  have HA3 := Aside0.mk (HA2.out.drew k3)
  have z31 : ∀ k, (w2.drewN k).cell? ⟨w.heap.size, 1, none⟩ = some (.string N) := fun _ => z21
  have zz : ∀ k, Zc (w2.drewN k) w.heap.size N T n := fun _ => ⟨z21, z22, z23⟩
  have HE1c : Aside0 (∀ k, Er (w2.drewN k) _ v1 c N) := ⟨fun k => HE1b.out.below (pw_below_drewN (Below.refl _ _) k)⟩
  have HE2c : Aside0 (∀ k, Er (w2.drewN k) _ v2 c N) := ⟨fun k => HE2.out.below (pw_below_drewN (Below.refl _ _) k)⟩
  have HA3c : Aside0 (∀ k, Half B w0 (w2.drewN k) p b q g s s) := ⟨fun k => HA2.out.drew k⟩
  clear HE1 HE2 HE1b HA1 HA2 HA3 HA z21 z22 z23 zw zw0
  go_wp2_with (fail)
  go_region_held3 (fun w' => w'.cell? ⟨w.heap.size, 1, none⟩ = some (.string N) ∧ w'.cell? ⟨w.heap.size, 2, none⟩ = some (.string T) ∧ w'.cell? ⟨w.heap.size, 3, none⟩ = some (.int .i64 n)) (first | exact zj0 | exact zj _ | exact zi | exact zz _ | go_keep) (first | (go_at_call 19; ((with_reducible refine (isE_calls _ _ _ v1 N (HE1c.out _) ((HA3c.out _).ge HG.out HB.out) HCL.out HN.out).mono ?_)); rintro e wi ⟨rfl, hb⟩; have HAi := Aside0.mk ((HA3c.out _).b hb); have HE2i := Aside0.mk ((HE2c.out _).below hb); have zi : Zc wi w.heap.size N T n := (zc_b (zz _) hb); clear hb) | (go_at_call 19; ((with_reducible refine (isE_calls _ _ _ v2 N HE2i.out (HAi.out.ge HG.out HB.out) HCL.out HN.out).mono ?_)); rintro e wj ⟨rfl, hb⟩; have HAj : Aside0 (∀ k, Half B w0 (wj.drewN k) p b q g s s) := ⟨fun k => (HAi.out.b hb).drew k⟩; have HAj0 := Aside0.mk (HAi.out.b hb); have zj0 : Zc wj w.heap.size N T n := (zc_b zi hb); have zj : ∀ k, Zc (wj.drewN k) w.heap.size N T n := (have z := zc_b zi hb; fun _ => z); clear hb) | (go_at_call 27; refine (HH1.out _ (by first | exact HAj0.out | exact HAj.out _)).mono ?_; rintro e w' ⟨rfl, rfl⟩) | (go_at_call 34; refine (HH2.out _ (by first | exact HAj0.out | exact HAj.out _)).mono ?_; rintro e w' ⟨rfl, k, rfl⟩))
  all_goals (go_wp2_with (fail); go_ret; exact ⟨by first | rfl | (simp; done), g, s, by first | exact HAj0.out | exact HAj.out _⟩)
end
section
set_option maxHeartbeats 32000000 in
set_option maxRecDepth 100000 in
theorem does6 (B : Nat) (w0 : World) (p b q g : Nat) (s : St) (N T : ByteArray) (n : Int) (w : World) (h : Half B w0 w p b q g s s) (hG : GE w0) (hB : 0 < B) (hN : N.size ≤ 140737488351232) (hT : T.size ≤ 140737488351232) : Calls Tryz.prog 8 #[.pointer (some ⟨p, 0, none⟩), .pointer (some ⟨q, 0, none⟩), .agg #[.int .i64 6, .string N, .string T, .int .i64 n]] w fun e w' => e = .returned (.bool true) ∧ ∃ g' s', Half B w0 w' p b q g' s' s' := by
  have HA : Aside0 (∀ k, Half B w0 ((w.alloc (.cells #[.int .i64 6, .string N, .string T, .int .i64 n] 28)).drewN k) p b q g s s) := ⟨fun k => (h.b ((Below.refl _ _).alloc (Nat.le_refl _) _)).drew k⟩
  have HG := Aside0.mk hG
  have HB := Aside0.mk hB
  have HN := Aside0.mk hN
  have HT := Aside0.mk hT
  have hpl := h.d.lt
  have hbl := h.d.ltb
  have hql := h.r.lt
  have hgl := h.r.ltg
  have zw := fun k => zc_new w N T 6 n k
  have zw0 := zw 0
  clear h hG hB hN hT
  go_enter Tryz.func8, Tryz.ntmps8
  go_wp2_with (fail)
  refine (rrestart_calls q g s n _ (HA.out 0).r).mono ?_
  rintro e wr ⟨rfl, hR, hK⟩
  have HR1 := Aside0.mk ((HA.out 0).rr hR hK (.inl rfl) (HA.out 0).gt)
  obtain ⟨zp1, zp2, zp3⟩ := zc_kp zw0 hK (by omega) (by omega)
  clear hR hK zw zw0
  go_wp2_with (fail)
  refine (restart_calls p b s n _ HR1.out.d).mono ?_
  rintro e wp ⟨rfl, hD, hK⟩
  have HP := Aside0.mk (HR1.out.p hD hK HR1.out.gs)
  clear hD hK
  go_wp2_with (fail)
  go_ret
  exact ⟨rfl, _, _, HP.out⟩
end
section
theorem NL.sl {w : World} {base : Nat} {v : Value} {l : List ByteArray} (h : NL w base v l) : ∃ a cap, v = .slice a l.length cap := by
  rcases h with ⟨h1, h2⟩ | ⟨g, cap, h1, _⟩
  · exact ⟨none, 0, by rw [h1, h2]; rfl⟩
  · exact ⟨_, _, h1⟩
theorem NL.at' {w : World} {base : Nat} {a : Option Addr} {n cap : Nat} {l : List ByteArray} (h : NL w base (.slice a n cap) l) (i : Nat) (hi : i < l.length) : ∃ g, a = some ⟨g, 0, none⟩ ∧ w.cell? ⟨g, i, none⟩ = some (.string l[i]) := by
  rcases h with ⟨_, h2⟩ | ⟨g, cap', h1, _, _, h4⟩
  · rw [h2] at hi; exact absurd hi (by simp)
  · injection h1 with h1 _ _
    exact ⟨g, h1, h4 i hi⟩
theorem names_there {s : St} (h : Good s.L) : ∀ k ∈ (if s.dead then [] else s.L.map (·.1)), thereC s k = 0 := by
  intro k hk
  cases hd : s.dead
  · rw [hd] at hk
    obtain ⟨p, hp, rfl⟩ := List.mem_map.1 hk
    exact thereC_some (h p hp) hd ((lk_some_iff _ _).2 ⟨p, hp, rfl⟩)
  · rw [hd] at hk
    cases hk
set_option maxHeartbeats 32000000 in
set_option maxRecDepth 100000 in
theorem stands_calls (B : Nat) (w0 : World) (p b q g : Nat) (s : St) (w : World) (h : Half B w0 w p b q g s s) (hz : ∀ k ∈ (if s.dead then [] else s.L.map (·.1)), k.size ≤ maxLen) : Calls Tryz.prog 11 #[.pointer (some ⟨p, 0, none⟩), .pointer (some ⟨q, 0, none⟩)] w fun e w' => e = .returned (.bool true) ∧ Half B w0 w' p b q g s s ∧ Below w.heap.size w w' := by
  have HT := Aside0.mk (names_there h.gs)
  have HZ := Aside0.mk hz
  have HA := Aside0.mk h
  clear h hz
  obtain ⟨l, hl⟩ : ∃ l, (if s.dead then [] else s.L.map (·.1)) = l := ⟨_, rfl⟩
  have HN1 := Aside0.mk (fun W (hW : Half B w0 W p b q g s s) => (by have := names_calls p b s W hW.d; rw [hl] at this; exact this : Calls Tryz.prog 26 #[.pointer (some ⟨p, 0, none⟩)] W fun e w' => ∃ v, e = .returned v ∧ NL w' W.heap.size v l ∧ Below W.heap.size W w'))
  have HN2 := Aside0.mk (fun W (hW : Half B w0 W p b q g s s) => (by have := rnames_calls q g s W hW.r; rw [hl] at this; exact this : Calls Tryz.prog 36 #[.pointer (some ⟨q, 0, none⟩)] W fun e w' => ∃ v, e = .returned v ∧ NL w' W.heap.size v l ∧ Below W.heap.size W w'))
  have HTL := Aside0.mk (hl ▸ HT.out)
  have HZL := Aside0.mk (hl ▸ HZ.out)
  have hll : l.length ≤ 65536 := by
    rw [← hl]
    split
    · simp
    · rw [List.length_map]; exact HA.out.d.2.2.2.1
  clear HT HZ hl
  go_enter Tryz.func11, Tryz.ntmps11
  go_wp2_with (fail)
  refine (HN1.out _ HA.out).mono ?_
  rintro e w1 ⟨v1, rfl, hL, hb⟩
  obtain ⟨a1, cap1, rfl⟩ := hL.sl
  have HA1 := Aside0.mk (HA.out.b hb)
  have HB1 := Aside0.mk hb
  have HL1 := Aside0.mk hL
  clear hL hb
  go_wp2_with (fail)
  refine (HN2.out _ HA1.out).mono ?_
  rintro e w2 ⟨v2, rfl, hL, hb⟩
  obtain ⟨a2, cap2, rfl⟩ := hL.sl
  have HA2 := Aside0.mk (HA1.out.b hb)
  have HB2 := Aside0.mk (below_step (w := w) HB1.out hb)
  have HL1b := Aside0.mk (HL1.out.below hb)
  have HL2 := Aside0.mk hL
  clear hL hb
  go_wp2_with (fail)
  go_loopw [7] (fun v7 wr => ∃ i : Nat, i ≤ l.length ∧ v7 = .int .i64 i ∧ Aside0 (Half B w0 wr p b q g s s ∧ Below w.heap.size w wr ∧ NL wr w.heap.size (.slice a1 l.length cap1) l ∧ NL wr w1.heap.size (.slice a2 l.length cap2) l)) (fun v7 _ => l.length - (intOf v7).toNat)
  case atStart => exact ⟨0, Nat.zero_le _, rfl, ⟨HA2.out, HB2.out, HL1b.out, HL2.out⟩⟩
  case round =>
    obtain ⟨i, hi, rfl, HX⟩ := hrel
    by_cases h1 : i < l.length
    · have h1' : (i : Int) < (l.length : Int) := by omega
      have h0' : (0 : Int) ≤ (i : Int) := by omega
      obtain ⟨g1, rfl, k1⟩ := HX.out.2.2.1.at' i h1
      obtain ⟨g2, rfl, k2⟩ := HX.out.2.2.2.at' i h1
      have HTK := Aside0.mk (HTL.out l[i] (List.getElem_mem h1))
      have HZK := Aside0.mk (HZL.out l[i] (List.getElem_mem h1))
      generalize l[i] = x at *
      clear h1
      go_wp2_with (fail)
      refine (read_calls p b s x wr HX.out.1.d HZK.out).mono ?_
      rw [HTK.out]
      rintro e w3 ⟨v3, rfl, hE, hb⟩
      obtain rfl : v3 = .nilIface := by
        rcases hE with h | h
        · exact h.2
        · omega
      have HX3 := Aside0.mk (And.intro (HX.out.1.b hb) (And.intro (below_step (w := w) HX.out.2.1 hb) (And.intro (HX.out.2.2.1.below hb) (HX.out.2.2.2.below hb))))
      have k1b := pw_cell_below hb k1
      have k2b := pw_cell_below hb k2
      clear hE hb k1 k2
      rw [if_pos rfl]
      go_wp2_with (fail)
      refine (rread_calls q g s x w3 HX3.out.1.r).mono ?_
      rw [HTK.out, if_pos rfl]
      rintro e w4 ⟨rfl, k, rfl⟩
      have k1c : ∀ k, (w3.drewN k).cell? ⟨g1, i, none⟩ = some (.string x) := fun _ => k1b
      have k2c : ∀ k, (w3.drewN k).cell? ⟨g2, i, none⟩ = some (.string x) := fun _ => k2b
      have HX4 : Aside0 (∀ k, Half B w0 (w3.drewN k) p b q g s s ∧ Below w.heap.size w (w3.drewN k) ∧ NL (w3.drewN k) w.heap.size (.slice (some ⟨g1, 0, none⟩) l.length cap1) l ∧ NL (w3.drewN k) w1.heap.size (.slice (some ⟨g2, 0, none⟩) l.length cap2) l) := ⟨fun k => ⟨HX3.out.1.drew k, pw_below_drewN HX3.out.2.1 k, HX3.out.2.2.1.below (pw_below_drewN (Below.refl _ _) k), HX3.out.2.2.2.below (pw_below_drewN (Below.refl _ _) k)⟩⟩
      clear k1b k2b
      generalize lkD s.L x = y at *
      go_wp2_with (fail)
      go_quiet (fail)
      go_wp2_with (fail)
      go_roundw
      case measure => simp [intOf]; omega
      case rel => exact ⟨i + 1, by omega, by simp, ⟨by first | exact HX4.out _ | exact HX4.out (k + nq)⟩⟩
    · have h1' : ¬ (i : Int) < (l.length : Int) := by omega
      clear h1
      go_wp2_with (fail)
      go_ret
      exact ⟨rfl, HX.out.1, HX.out.2.1⟩
end
section
theorem names_small {s : St} (h : Good s.L) : ∀ k ∈ (if s.dead then [] else s.L.map (·.1)), k.size ≤ maxLen := by
  intro k hk
  have h1 : ¬ badN k := by
    cases hd : s.dead
    · rw [hd] at hk
      obtain ⟨p, hp, rfl⟩ := List.mem_map.1 hk
      exact h p hp
    · rw [hd] at hk
      cases hk
  unfold badN at h1
  unfold maxLen
  omega
theorem stands' (B : Nat) (w0 : World) (p b q g : Nat) (s : St) (w : World) (h : Half B w0 w p b q g s s) : Calls Tryz.prog 11 #[.pointer (some ⟨p, 0, none⟩), .pointer (some ⟨q, 0, none⟩)] w fun e w' => e = .returned (.bool true) ∧ Half B w0 w' p b q g s s ∧ Below w.heap.size w w' := stands_calls B w0 p b q g s w h (names_small h.gs)
set_option maxHeartbeats 32000000 in
set_option maxRecDepth 100000 in
theorem doesX (D : Int) (h0 : (D == 0) = false) (h1 : (D == 1) = false) (h2 : (D == 2) = false) (h3 : (D == 3) = false) (h4 : (D == 4) = false) (h5 : (D == 5) = false) (h6 : (D == 6) = false) (B : Nat) (w0 : World) (p b q g : Nat) (s : St) (N T : ByteArray) (n : Int) (w : World) (h : Half B w0 w p b q g s s) (hG : GE w0) (hB : 0 < B) (hN : N.size ≤ 140737488351232) (hT : T.size ≤ 140737488351232) : Calls Tryz.prog 8 #[.pointer (some ⟨p, 0, none⟩), .pointer (some ⟨q, 0, none⟩), .agg #[.int .i64 D, .string N, .string T, .int .i64 n]] w fun e w' => e = .returned (.bool true) ∧ ∃ g' s', Half B w0 w' p b q g' s' s' := by
  have HA : Aside0 (∀ k, Half B w0 ((w.alloc (.cells #[.int .i64 D, .string N, .string T, .int .i64 n] 28)).drewN k) p b q g s s) := ⟨fun k => (h.b ((Below.refl _ _).alloc (Nat.le_refl _) _)).drew k⟩
  have HG := Aside0.mk hG
  have HB := Aside0.mk hB
  have HN := Aside0.mk hN
  have HT := Aside0.mk hT
  have hpl := h.d.lt
  have hbl := h.d.ltb
  have hql := h.r.lt
  have hgl := h.r.ltg
  have zw := fun k => zc_new w N T D n k
  have zw0 := zw 0
  clear h hG hB hN hT
  go_enter Tryz.func8, Tryz.ntmps8
  go_wp2_with (fail)
  refine (stands' B w0 p b q g s _ (by first | exact HA.out 0 | exact HA.out _)).mono ?_
  rintro e w1 ⟨rfl, hH, hb⟩
  have HH := Aside0.mk hH
  clear hH hb
  go_wp2_with (fail)
  go_ret
  exact ⟨rfl, g, s, HH.out⟩
theorem does_calls (D : Int) (B : Nat) (w0 : World) (p b q g : Nat) (s : St) (N T : ByteArray) (n : Int) (w : World) (h : Half B w0 w p b q g s s) (hG : GE w0) (hB : 0 < B) (hN : N.size ≤ 140737488351232) (hT : T.size ≤ 140737488351232) : Calls Tryz.prog 8 #[.pointer (some ⟨p, 0, none⟩), .pointer (some ⟨q, 0, none⟩), .agg #[.int .i64 D, .string N, .string T, .int .i64 n]] w fun e w' => e = .returned (.bool true) ∧ ∃ g' s', Half B w0 w' p b q g' s' s' := by
  by_cases h0 : D = 0
  · subst h0; exact does0 B w0 p b q g s N T n w h hG hB hN hT
  by_cases h1 : D = 1
  · subst h1; exact does1 B w0 p b q g s N T n w h hG hB hN hT
  by_cases h2 : D = 2
  · subst h2; exact does2 B w0 p b q g s N T n w h hG hB hN hT
  by_cases h3 : D = 3
  · subst h3; exact does3 B w0 p b q g s N T n w h hG hB hN hT
  by_cases h4 : D = 4
  · subst h4; exact does4 B w0 p b q g s N T n w h hG hB hN hT
  by_cases h5 : D = 5
  · subst h5; exact does5 B w0 p b q g s N T n w h hG hB hN hT
  by_cases h6 : D = 6
  · subst h6; exact does6 B w0 p b q g s N T n w h hG hB hN hT
  exact doesX D (beq_eq_false_iff_ne.2 h0) (beq_eq_false_iff_ne.2 h1) (beq_eq_false_iff_ne.2 h2) (beq_eq_false_iff_ne.2 h3) (beq_eq_false_iff_ne.2 h4) (beq_eq_false_iff_ne.2 h5) (beq_eq_false_iff_ne.2 h6) B w0 p b q g s N T n w h hG hB hN hT
end
end Go.Proofs.YtcbgeakabchenaaGreatDoor.D

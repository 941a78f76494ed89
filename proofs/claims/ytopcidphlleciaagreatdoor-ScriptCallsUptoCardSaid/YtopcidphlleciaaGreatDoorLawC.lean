/- ScriptCalls' law walked. -/
import Derived.Test.YtopcidphlleciaaGreatDoorReS
import Derived.Test.YtopcidphlleciaaGreatDoorOpC
import Derived.Test.YtopcidphlleciaaGreatDoorSIs
import Derived.Test.YtopcidphlleciaaGreatDoorProO
import Derived.Test.YtopcidphlleciaaGreatDoorProN
namespace Go.Proofs.YtopcidphlleciaaGreatDoor.S
open Go.RowKit Go.Extern.Stop Go.Stop Go.Extern Go.Proofs.YtopcidphlleciaaGreatDoorW.PrintWords Go.Proofs.YtopcidphlleciaaGreatDoorW.PrintLast Go.Proofs.YtopcidphlleciaaGreatDoorW.PrintMore
set_option linter.unusedVariables false
set_option linter.unusedSimpArgs false
/-- The law's lives. -/
theorem lives_calls (w : World) (hG : GW w) : Calls Tryz.prog 9 #[] w fun e w' => e = .returned (.bool true) ∧ Below w.heap.size w w' := lives_of ⟨is_ok⟩ w hG
/-- The cells that the law's last line reads. -/
def ZS (W : World) (p g : Nat) (word : ByteArray) (A : Option Addr) (n c : Nat) (b0 b1 b2 : Value) : Prop := W.cell? ⟨p, 0, none⟩ = some (.string word) ∧ W.cell? ⟨p, 1, none⟩ = some (.slice A n c) ∧ W.cell? ⟨g, 0, none⟩ = some b0 ∧ W.cell? ⟨g, 1, none⟩ = some b1 ∧ W.cell? ⟨g, 2, none⟩ = some b2
theorem ZS.b {W W' : World} {p g : Nat} {word : ByteArray} {A : Option Addr} {n c : Nat} {b0 b1 b2 : Value} (h : ZS W p g word A n c b0 b1 b2) (hb : Below W.heap.size W W') : ZS W' p g word A n c b0 b1 b2 :=
  ⟨pw_cell_below hb h.1, pw_cell_below hb h.2.1, pw_cell_below hb h.2.2.1, pw_cell_below hb h.2.2.2.1, pw_cell_below hb h.2.2.2.2⟩
theorem below_k {w W : World} (h : Below w.heap.size w W) (k : Nat) : Below w.heap.size w (W.drewN k) := below_step (w := w) h (pw_below_drewN (Below.refl _ _) k)
set_option maxHeartbeats 32000000 in
set_option maxRecDepth 100000 in
theorem calls_yes (word : ByteArray) (l : List ByteArray) (A : Option Addr) (n c : Nat) (w : World) (hC : CL w word A n l) (hsm : smallB (word, l) = true) (hG : GW w) : Calls Tryz.prog 5 #[.agg #[.string word, .slice A n c]] w fun e w' => e = .returned (.bool true) ∧ Below w.heap.size w w' := by
  have HG := Aside0.mk hG
  have HC := Aside0.mk hC
  obtain ⟨hws, hns, has⟩ := small_yes hsm
  have hlen : l.length = n := hC.2.1
  have HSM : Aside0 (∀ W, LSt W A n l → Calls Tryz.prog 18 #[.agg #[.string word, .slice A n c]] W fun e w' => e = .returned (.bool true) ∧ Below W.heap.size W w') := ⟨fun W h => by have := small_calls word l A n c W hC.1 h; rw [hsm] at this; exact this⟩
  obtain ⟨⟨tx, bc, bw, bi⟩, htx⟩ : ∃ r, textF (word, l) = r := ⟨_, rfl⟩
  obtain ⟨⟨cc, cw, ci⟩, hck⟩ : ∃ r, checkF word l = r := ⟨_, rfl⟩
  have HTX : Aside0 (∀ W, Below w.heap.size w W → Calls Tryz.prog 19 #[.agg #[.string word, .slice A n c]] W fun e w' => ∃ v, e = .returned (.tuple #[.string tx, v]) ∧ EA w' v (bc, bw, bi) ∧ Below W.heap.size W w') := ⟨fun W hb => by
    have := text_calls word l A n c W (by have : word.size ≤ 4000 := hws; omega) (by have : l.length ≤ 100 := hns; omega) (fun k hk => by have := has k hk; omega) (hC.2.below hb) (hG.below hb).1 (hG.below hb).2.1
    rw [htx] at this
    exact this⟩
  have HRT : Aside0 (∀ W, Below w.heap.size w W → Calls Tryz.prog 20 #[.agg #[.string word, .slice A n c]] W fun e w' => e = .returned (.tuple #[.string tx, .agg #[.int .i64 (bc : Int), .string bw, .int .i64 bi]]) ∧ Below W.heap.size W w') := ⟨fun W hb => by
    have := rtext_calls word l A n c W (by have : word.size ≤ 4000 := hws; omega) (by have : l.length ≤ 100 := hns; omega) (fun k hk => by have := has k hk; omega) (hC.2.below hb)
    rw [htx] at this
    exact this⟩
  have HCK : Aside0 (∀ W, Below w.heap.size w W → Calls Tryz.prog 21 #[.agg #[.string word, .slice A n c]] W fun e w' => ∃ v, e = .returned v ∧ EA w' v (cc, cw, ci) ∧ Below W.heap.size W w') := ⟨fun W hb => by
    have := check_calls word l A n c W hC.1 (hC.2.below hb) (hG.below hb).1 (hG.below hb).2.1
    rw [hck] at this
    exact this⟩
  have HRC : Aside0 (∀ W, Below w.heap.size w W → Calls Tryz.prog 22 #[.agg #[.string word, .slice A n c]] W fun e w' => e = .returned (.agg #[.int .i64 (cc : Int), .string cw, .int .i64 ci]) ∧ Below W.heap.size W w') := ⟨fun W hb => by
    have := rcheck_calls word l A n c W (hC.2.below hb)
    rw [hck] at this
    exact this⟩
  have HI1 : Aside0 (∀ v W, EA W v (bc, bw, bi) → Below w.heap.size w W → Calls Tryz.prog 12 #[v, .agg #[.int .i64 (bc : Int), .string bw, .int .i64 bi]] W fun e w' => e = .returned (.bool true) ∧ Below W.heap.size W w') := ⟨fun v W h hb => is_ok v (bc, bw, bi) W h (hG.below hb).2.2.2⟩
  have HI2 : Aside0 (∀ v W, EA W v (cc, cw, ci) → Below w.heap.size w W → Calls Tryz.prog 12 #[v, .agg #[.int .i64 (cc : Int), .string cw, .int .i64 ci]] W fun e w' => e = .returned (.bool true) ∧ Below W.heap.size W w') := ⟨fun v W h hb => is_ok v (cc, cw, ci) W h (hG.below hb).2.2.2⟩
  have HLV : Aside0 (∀ W, Below w.heap.size w W → Calls Tryz.prog 9 #[] W fun e w' => e = .returned (.bool true) ∧ Below W.heap.size W w') := ⟨fun W hb => lives_calls W (hG.below hb)⟩
  have htt : (tx.toList == tx.toList) = true := by simp
  clear hC hsm hG hws hns has hlen htx hck
  go_enter Tryz.func5, Tryz.ntmps5
  go_wp2_with (fail)
  have HBX : Aside0 (Below w.heap.size w (w.alloc (.cells #[.string word, .slice A n c] 25))) := ⟨(Below.refl _ _).alloc (Nat.le_refl _) _⟩
  refine (HSM.out _ (HC.out.2.below HBX.out)).mono ?_
  rintro e w1 ⟨rfl, hb1⟩
  have HB1 : Aside0 (Below w.heap.size w w1) := ⟨below_step (w := w) HBX.out hb1⟩
  have c0 := pw_cell_below hb1 (show (w.alloc (.cells #[.string word, .slice A n c] 25)).cell? ⟨w.heap.size, 0, none⟩ = some (.string word) by simp)
  have c1 := pw_cell_below hb1 (show (w.alloc (.cells #[.string word, .slice A n c] 25)).cell? ⟨w.heap.size, 1, none⟩ = some (.slice A n c) by simp)
  clear hb1
  go_wp2_with (fail)
  refine (HTX.out _ HB1.out).mono ?_
  rintro e w2 ⟨v2, rfl, hE2, hb2⟩
  have HB2 : Aside0 (Below w.heap.size w w2) := ⟨below_step (w := w) HB1.out hb2⟩
  have HE2 := Aside0.mk hE2
  have d0 := pw_cell_below hb2 c0
  have d1 := pw_cell_below hb2 c1
  clear hb2 hE2 c0 c1
  go_wp2_with (fail)
  refine (HRT.out _ HB2.out).mono ?_
  rintro e w3 ⟨rfl, hb3⟩
  have HB3 : Aside0 (Below w.heap.size w w3) := ⟨below_step (w := w) HB2.out hb3⟩
  have HE3 := Aside0.mk (HE2.out.below hb3)
  have e0 := pw_cell_below hb3 d0
  have e1 := pw_cell_below hb3 d1
  have hz3 : w.heap.size < w3.heap.size := World.block_lt_of_cell? _ _ e0
  have hz3' : w.heap.size ≠ w3.heap.size := Nat.ne_of_lt hz3
  have HN3 : Aside0 (Below w3.heap.size w3 (w3.alloc (.cells #[.int .i64 (bc : Int), .string bw, .int .i64 bi] 31))) := ⟨(Below.refl _ _).alloc (Nat.le_refl _) _⟩
  have HZ4 : Aside0 (ZS (w3.alloc (.cells #[.int .i64 (bc : Int), .string bw, .int .i64 bi] 31)) w.heap.size w3.heap.size word A n c (.int .i64 (bc : Int)) (.string bw) (.int .i64 bi)) := ⟨pw_cell_below HN3.out e0, pw_cell_below HN3.out e1, by simp, by simp, by simp⟩
  have HE4 := Aside0.mk (HE3.out.below HN3.out)
  have HB4 : Aside0 (Below w.heap.size w (w3.alloc (.cells #[.int .i64 (bc : Int), .string bw, .int .i64 bi] 31))) := ⟨below_step (w := w) HB3.out HN3.out⟩
  clear hb3
  go_wp2_with (fail)
  obtain ⟨w4, hw4⟩ : ∃ w4, w3.alloc (.cells #[.int .i64 (bc : Int), .string bw, .int .i64 bi] 31) = w4 := ⟨_, rfl⟩
  rw [hw4] at HZ4 HE4 HB4
  try rw [hw4]
  have HEa : Aside0 (∀ k, EA (w4.drewN k) v2 (bc, bw, bi)) := ⟨fun k => HE4.out.below (pw_below_drewN (Below.refl _ _) k)⟩
  have HBa : Aside0 (∀ k, Below w.heap.size w (w4.drewN k)) := ⟨below_k HB4.out⟩
  have HEad : Aside0 (EA w4.drew v2 (bc, bw, bi)) := ⟨HE4.out.below (below_drew1 (Below.refl _ _))⟩
  have HBad := Aside0.mk (below_drew1 HB4.out)
  obtain ⟨g, hg⟩ : ∃ g, w3.heap.size = g := ⟨_, rfl⟩
  rw [hg] at HZ4
  try rw [hg]
  have za0 := HZ4.out
  have za : ∀ k, ZS (w4.drewN k) w.heap.size g word A n c (.int .i64 (bc : Int)) (.string bw) (.int .i64 bi) := fun _ => za0
  clear hw4 HN3 HB3 HE3 e0 e1 hg hz3 hz3'
  go_region_held3 (fun w' => w'.cell? ⟨w.heap.size, 0, none⟩ = some (.string word) ∧ w'.cell? ⟨w.heap.size, 1, none⟩ = some (.slice A n c) ∧ w'.cell? ⟨g, 0, none⟩ = some (.int .i64 (bc : Int)) ∧ w'.cell? ⟨g, 1, none⟩ = some (.string bw) ∧ w'.cell? ⟨g, 2, none⟩ = some (.int .i64 bi))
    (first | exact za0 | exact za 1 | exact za _ | exact zi | exact zc | exact zr | exact zj | exact zl | go_keep)
    (first
      | (go_at_call 12; ((with_reducible refine (HI1.out v2 _ (by first | exact HE4.out | exact HEad.out | exact HEa.out _) (by first | exact HB4.out | exact HBad.out | exact HBa.out _)).mono ?_)); rintro e wi ⟨rfl, hb⟩; have HBi := Aside0.mk (below_step (w := w) (by first | exact HBad.out | exact HB4.out | exact HBa.out _) hb); have HBik := Aside0.mk (below_k HBi.out); have HBid := Aside0.mk (below_drew1 HBi.out); have zi : ZS wi w.heap.size g word A n c (.int .i64 (bc : Int)) (.string bw) (.int .i64 bi) := (ZS.b (by first | exact za 1 | exact za0 | exact za _) hb); clear hb)
      | (go_at_call 21; ((with_reducible refine (HCK.out _ (by first | exact HBi.out | exact HBid.out | exact HBik.out _ | exact HBr.out | exact HBrd.out | exact HBrk.out _)).mono ?_)); rintro e wc ⟨vc, rfl, hE, hb⟩; have HBc := Aside0.mk (below_step (w := w) (by first | exact HBi.out | exact HBid.out | exact HBik.out _ | exact HBr.out | exact HBrd.out | exact HBrk.out _) hb); have HBck := Aside0.mk (below_k HBc.out); have HBcd := Aside0.mk (below_drew1 HBc.out); have HEc := Aside0.mk hE; have HEcd : Aside0 (EA wc.drew vc (cc, cw, ci)) := ⟨HEc.out.below (below_drew1 (Below.refl _ _))⟩; have HEck : Aside0 (∀ k, EA (wc.drewN k) vc (cc, cw, ci)) := ⟨fun k => HEc.out.below (pw_below_drewN (Below.refl _ _) k)⟩; have zc : ZS wc w.heap.size g word A n c (.int .i64 (bc : Int)) (.string bw) (.int .i64 bi) := (ZS.b (by first | exact zr | exact zi) hb); clear hE hb)
      | (go_at_call 22; ((with_reducible refine (HRC.out _ (by first | exact HBi.out | exact HBid.out | exact HBik.out _ | exact HBc.out | exact HBcd.out | exact HBck.out _)).mono ?_)); rintro e wr ⟨rfl, hb⟩; have HBr := Aside0.mk (below_step (w := w) (by first | exact HBi.out | exact HBid.out | exact HBik.out _ | exact HBc.out | exact HBcd.out | exact HBck.out _) hb); have HBrk := Aside0.mk (below_k HBr.out); have HBrd := Aside0.mk (below_drew1 HBr.out); have zr : ZS wr w.heap.size g word A n c (.int .i64 (bc : Int)) (.string bw) (.int .i64 bi) := (ZS.b (by first | exact zc | exact zi) hb); try have HEr := Aside0.mk (show EA wr vc (cc, cw, ci) by first | exact HEc.out.below hb | exact HEcd.out.below hb | exact (HEck.out _).below hb); try have HErd := Aside0.mk (HEr.out.below (below_drew1 (Below.refl _ _))); clear hb)
      | (go_at_call 12; ((with_reducible refine (HI2.out vc _ (by first | exact HEc.out | exact HEcd.out | exact HEck.out _ | exact HEr.out | exact HErd.out | exact (HEr.out.below (pw_below_drewN (Below.refl _ _) _))) (by first | exact HBc.out | exact HBcd.out | exact HBck.out _ | exact HBr.out | exact HBrd.out | exact HBrk.out _)).mono ?_)); rintro e wj ⟨rfl, hb⟩; have HBj := Aside0.mk (below_step (w := w) (by first | exact HBc.out | exact HBcd.out | exact HBck.out _ | exact HBr.out | exact HBrd.out | exact HBrk.out _) hb); have HBjk := Aside0.mk (below_k HBj.out); have HBjd := Aside0.mk (below_drew1 HBj.out); have zj : ZS wj w.heap.size g word A n c (.int .i64 (bc : Int)) (.string bw) (.int .i64 bi) := (ZS.b (by first | exact zr | exact zc) hb); clear hb)
      | (go_at_call 9; ((with_reducible refine (HLV.out _ (by first | exact HBj.out | exact HBjd.out | exact HBjk.out _)).mono ?_)); rintro e wl ⟨rfl, hb⟩; have HBl := Aside0.mk (below_step (w := w) (by first | exact HBj.out | exact HBjd.out | exact HBjk.out _) hb); have HBlk := Aside0.mk (below_k HBl.out); have HBld := Aside0.mk (below_drew1 HBl.out); have zl : ZS wl w.heap.size g word A n c (.int .i64 (bc : Int)) (.string bw) (.int .i64 bi) := (ZS.b zj hb); clear hb))
  all_goals (go_wp2_with (fail); go_ret; exact ⟨by first | rfl | (simp; done), by first | exact HBl.out | exact HBld.out | exact HBlk.out _⟩)
set_option maxHeartbeats 32000000 in
set_option maxRecDepth 100000 in
theorem calls_no (word : ByteArray) (l : List ByteArray) (A : Option Addr) (n c : Nat) (w : World) (hC : CL w word A n l) (hsm : smallB (word, l) = false) (hG : GW w) : Calls Tryz.prog 5 #[.agg #[.string word, .slice A n c]] w fun e w' => e = .returned (.bool true) ∧ Below w.heap.size w w' := by
  have HG := Aside0.mk hG
  have HC := Aside0.mk hC
  have HSM : Aside0 (∀ W, LSt W A n l → Calls Tryz.prog 18 #[.agg #[.string word, .slice A n c]] W fun e w' => e = .returned (.bool false) ∧ Below W.heap.size W w') := ⟨fun W h => by have := small_calls word l A n c W hC.1 h; rw [hsm] at this; exact this⟩
  have HBX : Aside0 (Below w.heap.size w (w.alloc (.cells #[.string word, .slice A n c] 25))) := ⟨(Below.refl _ _).alloc (Nat.le_refl _) _⟩
  clear hC hsm hG
  go_enter Tryz.func5, Tryz.ntmps5
  go_wp2_with (fail)
  refine (HSM.out _ (HC.out.2.below HBX.out)).mono ?_
  rintro e w1 ⟨rfl, hb1⟩
  have HB1 : Aside0 (Below w.heap.size w w1) := ⟨below_step (w := w) HBX.out hb1⟩
  clear hb1
  go_wp2_with (fail)
  refine (lives_calls _ (HG.out.below HB1.out)).mono ?_
  rintro e wa ⟨rfl, hba⟩
  have HBa : Aside0 (Below w.heap.size w wa) := ⟨below_step (w := w) HB1.out hba⟩
  clear hba
  go_wp2_with (fail)
  go_ret
  exact ⟨rfl, HBa.out⟩
theorem law_walk (word : ByteArray) (l : List ByteArray) (A : Option Addr) (n c : Nat) (w : World) (hC : CL w word A n l) (hG : GW w) : Calls Tryz.prog 5 #[.agg #[.string word, .slice A n c]] w fun e w' => e = .returned (.bool true) ∧ Below w.heap.size w w' := by
  cases h : smallB (word, l)
  · exact calls_no word l A n c w hC h hG
  · exact calls_yes word l A n c w hC h hG
end Go.Proofs.YtopcidphlleciaaGreatDoor.S

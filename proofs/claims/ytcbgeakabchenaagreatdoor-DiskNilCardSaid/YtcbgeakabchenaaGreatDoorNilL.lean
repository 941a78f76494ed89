/- The walk of the law DiskNil. -/
import Derived.Test.YtcbgeakabchenaaGreatDoorNilB
namespace Go.Proofs.YtcbgeakabchenaaGreatDoor.D
open Go.RowKit Go.Extern.Stop Go.Stop Go.Extern Go.Proofs.YtcbgeakabchenaaGreatDoorW.PrintWords Go.Proofs.YtcbgeakabchenaaGreatDoorW.PrintLast Go.Proofs.YtcbgeakabchenaaGreatDoorW.PrintMore
set_option linter.unusedVariables false
set_option linter.unusedSimpArgs false
set_option maxHeartbeats 64000000 in
set_option maxRecDepth 100000 in
theorem diskNil_calls (name text : ByteArray) (n : Int) (w : World) (hn : name.size ≤ 140737488351232) (ht : text.size ≤ 140737488351232) (hG : GE w) : Calls Tryz.prog 5 #[.string name, .string text, .int .i64 n] w fun e w' => e = .returned (.bool true) ∧ Below w.heap.size w w' := by
  have HG := Aside0.mk hG
  have HN := Aside0.mk hn
  have h0 := nil23
  clear hG hn
  go_enter Tryz.func5, Tryz.ntmps5
  go_wp2_with (fail)
  refine (read_nil name _).mono ?_
  rintro e w1 ⟨v1, rfl, hE1, hb1⟩
  have HE1 := Aside0.mk hE1
  have HB1 := Aside0.mk hb1
  clear hE1 hb1
  go_wp2_with (fail)
  refine (size_nil name _).mono ?_
  rintro e w2 ⟨v2, rfl, hE2, hb2⟩
  have HE2 := Aside0.mk hE2
  have HE1b := Aside0.mk (HE1.out.below hb2)
  have HB2 := Aside0.mk (below_step (w := w) HB1.out hb2)
  clear hE2 hb2 HE1
  go_wp2_with (fail)
  refine (isE_calls _ _ 1 v1 name HE1b.out (HG.out.below HB2.out) (by decide) HN.out).mono ?_
  rintro e w3 ⟨rfl, hb3⟩
  have HE3 := Aside0.mk (HE2.out.below hb3)
  have HB3 := Aside0.mk (below_step (w := w) HB2.out hb3)
  clear hb3 HE2 HE1b
  go_wp2_with (fail)
  refine (isE_calls _ _ 1 v2 name HE3.out (HG.out.below HB3.out) (by decide) HN.out).mono ?_
  rintro e w4 ⟨rfl, hb4⟩
  have HB4 := Aside0.mk (below_step (w := w) HB3.out hb4)
  clear hb4 HE3
  go_wp2_with (fail)
  refine (append_nil name text _).mono ?_
  rintro e w5 ⟨v5, rfl, hE, hb⟩
  have HE5 := Aside0.mk hE
  have HB5 := Aside0.mk (below_step (w := w) HB4.out hb)
  clear hE hb
  go_wp2_with (fail)
  refine (isE_calls _ _ 1 v5 name HE5.out (HG.out.below HB5.out) (by decide) HN.out).mono ?_
  rintro e w6 ⟨rfl, hb⟩
  have HB6 := Aside0.mk (below_step (w := w) HB5.out hb)
  clear hb HE5
  go_wp2_with (fail)
  refine (put_nil name text _).mono ?_
  rintro e w7 ⟨v7, rfl, hE, hb⟩
  have HE7 := Aside0.mk hE
  have HB7 := Aside0.mk (below_step (w := w) HB6.out hb)
  clear hE hb
  go_wp2_with (fail)
  refine (isE_calls _ _ 1 v7 name HE7.out (HG.out.below HB7.out) (by decide) HN.out).mono ?_
  rintro e w8 ⟨rfl, hb⟩
  have HB8 := Aside0.mk (below_step (w := w) HB7.out hb)
  clear hb HE7
  go_wp2_with (fail)
  refine (trunc_nil name n _).mono ?_
  rintro e w9 ⟨v9, rfl, hE, hb⟩
  have HE9 := Aside0.mk hE
  have HB9 := Aside0.mk (below_step (w := w) HB8.out hb)
  clear hE hb
  go_wp2_with (fail)
  refine (isE_calls _ _ 1 v9 name HE9.out (HG.out.below HB9.out) (by decide) HN.out).mono ?_
  rintro e w10 ⟨rfl, hb⟩
  have HB10 := Aside0.mk (below_step (w := w) HB9.out hb)
  clear hb HE9
  go_wp2_with (fail)
  refine (rename_nil name text _).mono ?_
  rintro e w11 ⟨v11, rfl, hE, hb⟩
  have HE11 := Aside0.mk hE
  have HB11 := Aside0.mk (below_step (w := w) HB10.out hb)
  clear hE hb
  go_wp2_with (fail)
  refine (isE_calls _ _ 1 v11 name HE11.out (HG.out.below HB11.out) (by decide) HN.out).mono ?_
  rintro e w12 ⟨rfl, hb⟩
  have HB12 := Aside0.mk (below_step (w := w) HB11.out hb)
  clear hb HE11
  go_wp2_with (fail)
  refine (remove_nil name _).mono ?_
  rintro e w13 ⟨v13, rfl, hE, hb⟩
  have HE13 := Aside0.mk hE
  have HB13 := Aside0.mk (below_step (w := w) HB12.out hb)
  clear hE hb
  go_wp2_with (fail)
  refine (isE_calls _ _ 1 v13 name HE13.out (HG.out.below HB13.out) (by decide) HN.out).mono ?_
  rintro e w14 ⟨rfl, hb⟩
  have HB14 := Aside0.mk (below_step (w := w) HB13.out hb)
  clear hb HE13
  go_wp2_with (fail)
  refine (restart_nil n _).mono ?_
  rintro e w15 ⟨v15, rfl, hE, hb⟩
  have HE15 := Aside0.mk hE
  have HB15 := Aside0.mk (below_step (w := w) HB14.out hb)
  clear hE hb
  go_wp2_with (fail)
  refine (isE_calls _ _ 1 v15 ⟨#[]⟩ HE15.out (HG.out.below HB15.out) (by decide) (by decide)).mono ?_
  rintro e w16 ⟨rfl, hb⟩
  have HB16 := Aside0.mk (below_step (w := w) HB15.out hb)
  clear hb HE15
  go_wp2_with (fail)
  refine (names_nil _).mono ?_
  rintro e w17 ⟨rfl, rfl⟩
  go_wp2_with (fail)
  refine (dead_nil _).mono ?_
  rintro e w17 ⟨rfl, rfl⟩
  go_wp2_with (fail)
  refine (writes_nil _).mono ?_
  rintro e w17 ⟨rfl, rfl⟩
  go_wp2_with (fail)
  refine (has_nil name _).mono ?_
  rintro e w17 ⟨rfl, rfl⟩
  go_wp2_with (fail)
  refine (copy_nil _).mono ?_
  rintro e w17 ⟨rfl, rfl⟩
  go_wp2_with (fail)
  refine (same_nil _).mono ?_
  rintro e wq ⟨rfl, q, rfl⟩
  have HBq := Aside0.mk (pw_below_drewN HB16.out q)
  go_wp2_with (fail)
  refine (alive_calls _ (HG.out.below HBq.out)).mono ?_
  rintro e wz ⟨rfl, hb⟩
  have HBz := Aside0.mk (below_step (w := w) HBq.out hb)
  clear hb
  go_wp2_with (fail)
  go_ret
  exact ⟨rfl, HBz.out⟩
theorem nil_walk (name text : ByteArray) (n : Int) (w : World) (hn : name.size ≤ 140737488351232) (ht : text.size ≤ 140737488351232) (_ : -9223372036854775808 ≤ n ∧ n ≤ 9223372036854775807) (hG : GE w) : Calls Tryz.prog 5 #[.string name, .string text, .int .i64 n] w fun e w' => e = .returned (.bool true) ∧ Below w.heap.size w w' := diskNil_calls name text n w hn ht hG
end Go.Proofs.YtcbgeakabchenaaGreatDoor.D

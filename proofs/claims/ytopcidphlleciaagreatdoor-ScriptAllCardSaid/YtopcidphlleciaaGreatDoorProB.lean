/- Write. -/
import Derived.Test.YtopcidphlleciaaGreatDoorProA
import Derived.Maps.AppendAt
import Derived.Deep.RegionHeld3
import Derived.Deep.RegionLaw
import Derived.Lib.Bytealg
namespace Go.Proofs.YtopcidphlleciaaGreatDoor.S
open Go.RowKit Go.Extern.Stop Go.Stop Go.Extern Go.Proofs.YtopcidphlleciaaGreatDoorW.PrintWords Go.Proofs.YtopcidphlleciaaGreatDoorW.PrintLast Go.Proofs.YtopcidphlleciaaGreatDoorW.PrintMore
set_option linter.unusedVariables false
set_option linter.unusedSimpArgs false
theorem step_append_at {P : Program} {ops : Array Oper} {o : Oper} {a : Act} {w : World} {K : Act → World → Prop} {Q : Exit → Act → World → Prop} {E : Prop}
    (hg : o.guard = none) (s x : Operand) (t : TypeId) (hop : o.op = Op.call { callee := Callee.builtin Builtin.append, args := #[s, x], argTypes := #[t, t] })
    (base : Nat) (e : TypeId) (i : TypeInfo) (z : Value) (size bytes : Nat) (h1 : P.underlying t = some (.slice e)) (h2 : P.info? e = some i) (h3 : i.zero = some z) (h4 : i.size = size) (h5 : i.bytes = bytes) (h6 : z.cells.size = size) (h7 : 0 < size)
    (v : Value) (n : Nat) (xs : List Value) (hs : a.eval s = v) (hown : w.ownsRow base e size v n xs)
    (ad : Addr) (m c : Nat) (news : List Value) (hx : a.eval x = .slice (some ad) m c) (hn : news.length = m * size) (hc : ∀ j u, news[j]? = some u → w.cell? (ad.add j) = some u) (h1c : ∀ u ∈ news, u.oneCell' = true)
    (b1 : n + m ≤ maxLen) (b2 : (n + m) * bytes ≤ 140737488355328) (hbase : base ≤ w.heap.size)
    (hK : ∀ v' w', w'.ownsRow base e size v' (n + m) (xs ++ news) → w.grownBy w' v.ownBlock → (v' = .slice none 0 0 ↔ v = .slice none 0 0 ∧ m = 0) → K (a.put o.dst v') w') :
    if Region.wanted o (yielded ops a.tmps) = true then Oper.wp P o a w K Q else E := by
  have hw : Region.wanted o (yielded ops a.tmps) = true := by simp [Region.wanted, hg]
  rw [if_pos hw]
  obtain ⟨v', w', hr, r1, r2, r3, _⟩ := run_append_own_at (P := P) w base t o.type e i z size bytes h1 h2 h3 h4 h5 h6 h7 v n xs hown ad m c news hn hc h1c b1 b2 hbase
  unfold Oper.wp
  simp [execOp, hop, resolve, invoke, builtin, hs, hx, hr, Result.andThen]
  exact hK v' w' r1 r2 r3
theorem ix_eq (c : UInt8) : Lib.indexByte digS.data.toList c = ixI c := by
  have h1 := byte_all (fun c => decide (Lib.indexByte digS.data.toList c = ixI c)) (by decide +kernel) c
  exact of_decide_eq_true h1
theorem toU8 (c : UInt8) : ((c.toNat : Int)).toNat.toUInt8 = c := by
  rw [Int.toNat_natCast]
  exact UInt8.ofNat_toNat
theorem idx_calls (c : UInt8) (w : World) : Calls Tryz.prog 50 #[.string digS, .int .u8 (c.toNat : Int)] w fun e w' => e = .returned (.int .i64 (ixI c)) ∧ w = w' :=
  (Tryz.strings_IndexByte digS (c.toNat : Int) w).mono fun e w' ⟨h1, h2⟩ => ⟨by rw [h1, toU8, ix_eq], h2.symm⟩
theorem cell_three_new (w : World) (x y z : Value) (t : TypeId) : ∀ j u, [x, y, z][j]? = some u → (w.alloc (.cells #[x, y, z] t)).cell? ((⟨w.heap.size, 0, none⟩ : Addr).add j) = some u := by
  intro j u h
  have hb := (MapKept.heap_alloc w (.cells #[x, y, z] t)).1
  match j, h with
  | 0, h => injection h with h; subst h; rw [show (⟨w.heap.size, 0, none⟩ : Addr).add 0 = ⟨w.heap.size, 0, none⟩ from rfl, cell_of_row _ _ _ _ _ _ hb]; rfl
  | 1, h => injection h with h; subst h; rw [show (⟨w.heap.size, 0, none⟩ : Addr).add 1 = ⟨w.heap.size, 1, none⟩ from rfl, cell_of_row _ _ _ _ _ _ hb]; rfl
  | 2, h => injection h with h; subst h; rw [show (⟨w.heap.size, 0, none⟩ : Addr).add 2 = ⟨w.heap.size, 2, none⟩ from rfl, cell_of_row _ _ _ _ _ _ hb]; rfl
theorem and15 (c : UInt8) : bits BinOp.and IntKind.u8 (c.toNat : Int) 15 = ((c.toNat % 16 : Nat) : Int) := by
  have h1 := byte_all (fun c => decide (bits BinOp.and IntKind.u8 (c.toNat : Int) 15 = ((c.toNat % 16 : Nat) : Int))) (by decide +kernel) c
  exact of_decide_eq_true h1
theorem ixdig (w : World) : ∀ (m : Nat), m < 16 → (Instr.index 9 (.string ⟨#[48, 49, 50, 51, 52, 53, 54, 55, 56, 57, 97, 98, 99, 100, 101, 102]⟩) (.int .u8 (m : Int))).run Tryz.prog w = .ok (.int .u8 ((hexd m).toNat : Int)) w
  | 0, _ => by kernel_rfl
  | 1, _ => by kernel_rfl
  | 2, _ => by kernel_rfl
  | 3, _ => by kernel_rfl
  | 4, _ => by kernel_rfl
  | 5, _ => by kernel_rfl
  | 6, _ => by kernel_rfl
  | 7, _ => by kernel_rfl
  | 8, _ => by kernel_rfl
  | 9, _ => by kernel_rfl
  | 10, _ => by kernel_rfl
  | 11, _ => by kernel_rfl
  | 12, _ => by kernel_rfl
  | 13, _ => by kernel_rfl
  | 14, _ => by kernel_rfl
  | 15, _ => by kernel_rfl
  | n + 16, h => absurd h (by omega)
theorem wr_append : ∀ (a b : BL), wrL (a ++ b) = wrL a ++ wrL b
  | [], b => rfl
  | c :: r, b => by
    show wrL (c :: (r ++ b)) = _
    rw [wrL, wrL, wr_append r b, List.append_assoc]
def encU (b : UInt8) : Value := .int .u8 (b.toNat : Int)
theorem info5 : (Tryz.prog.info? 5).map (fun i => (i.zero, i.size, i.bytes)) = some (some (.int .u8 0), 1, 1) := by kernel_rfl
theorem drew_row {w : World} {base : Nat} {e : TypeId} {size n : Nat} {v : Value} {xs : List Value} (h : w.ownsRow base e size v n xs) : w.drew.ownsRow base e size v n xs := h
theorem own_str {w : World} {base n : Nat} {v : Value} {l : BL} (h : w.ownsRow base 5 1 v n (l.map encU)) (hn : l.length = n) : (convert 57 9 v).run Tryz.prog w = .ok (.string ⟨l.toArray⟩) w := by
  subst hn
  rcases h.2 with ⟨rfl, h0⟩ | ⟨g, cap, cur, rfl, hb, hg, hnc, _, _, ht⟩
  · have hl : l = [] := List.length_eq_zero_iff.1 h0
    subst hl
    exact run_convert_bytes_nil w 57 5 Tryz.underlying57 Tryz.underlying5 0 0 9 Tryz.underlying9
  · refine run_convert_bytes_back w 57 9 5 ⟨g, 0, none⟩ cap l Tryz.underlying57 Tryz.underlying5 Tryz.underlying9 fun j hj => ?_
    have e := h.cells (g := g) rfl j (encU l[j]) (by simp [hj])
    exact e
set_option maxHeartbeats 8000000 in
set_option maxRecDepth 100000 in
theorem write_calls (s : ByteArray) (w : World) (hs : s.size ≤ 4000000) : Calls Tryz.prog 23 #[.string s] w fun e w' => e = .returned (.string ⟨(wrA (tl s)).toArray⟩) ∧ Below w.heap.size w w' := by
  obtain ⟨i0, hi0, hz0, hz1, hz2⟩ := info_parts info5
  by_cases h0 : s.size = 0
  · have hs0 : s = ⟨#[]⟩ := tl_inj (List.length_eq_zero_iff.1 (by rw [Array.length_toList]; exact h0))
    subst hs0
    go_enter Tryz.func23, Tryz.ntmps23
    go_wp2
    go_ret
    exact ⟨rfl, Below.refl _ _⟩
  · have hne : (s.toList == []) = false := by
      rw [beq_eq_false_iff_ne]
      intro q
      have q2 := congrArg List.length q
      rw [ByteArray.toList_eq, Array.length_toList] at q2
      exact h0 q2
    have HW : Aside0 (wrA (tl s) = wrL (tl s)) := ⟨by
      unfold wrA
      rw [if_neg]
      intro q
      have := congrArg List.length q
      rw [Array.length_toList] at this
      exact h0 this⟩
    rw [HW.out]
    clear HW h0
    have HL : Aside0 ((tl s).length = s.size) := ⟨Array.length_toList⟩
    go_enter Tryz.func23, Tryz.ntmps23
    go_wp2_with (fail)
    go_loopw [3, 10] (fun v3 v10 ww => ∃ (k : Nat) (acc : BL), k ≤ s.size ∧ v10 = .int .i64 k ∧ ww.ownsRow w.heap.size 5 1 v3 acc.length (acc.map encU) ∧ Aside0 (Below w.heap.size w ww ∧ acc = wrL ((tl s).take k)) ∧ acc.length ≤ 3 * k) (fun _ v10 _ => s.size - (intOf v10).toNat)
    case atStart => exact ⟨0, [], Nat.zero_le _, rfl, World.ownsRow_nil _ _ _ _, ⟨Below.refl _ _, by rw [List.take_zero]; rfl⟩, Nat.zero_le _⟩
    case round =>
      obtain ⟨k, acc, hk, rfl, hrow, HX, hlen⟩ := hrel
      by_cases h1 : k < s.size
      · have h1' : (k : Int) < (s.size : Int) := by omega
        have h0' : (0 : Int) ≤ (k : Int) := by omega
        obtain ⟨c, hc⟩ : ∃ c, s[k]'h1 = c := ⟨_, rfl⟩
        have HSN : Aside0 (wrL ((tl s).take (k + 1)) = wrL ((tl s).take k) ++ wrC c) := ⟨by
          have e : (tl s).take (k + 1) = (tl s).take k ++ [c] := by
            rw [List.take_succ_eq_append_getElem (by rw [HL.out]; exact h1)]
            congr 2
          rw [e, wr_append]
          show _ ++ (wrC c ++ []) = _
          rw [List.append_nil]⟩
        have hsz := HX.out.1.size
        cases hp : plC c
        case true =>
          have HP : Aside0 (∀ w, Calls Tryz.prog 49 #[.int .u8 (c.toNat : Int)] w fun e w' => e = .returned (.bool true) ∧ w = w') := ⟨fun w => by have := plain_calls c w; rw [hp] at this; exact this⟩
          have HC : Aside0 (wrC c = [c]) := ⟨by unfold wrC; rw [if_pos hp]⟩
          clear hp
          go_wp2_with (fail)
          refine (HP.out _).mono ?_
          rintro e w1 ⟨rfl, rfl⟩
          go_wp2_with (first
            | (at_builtin; refine wpList_append_own _ rfl _ _ 57 rfl w.heap.size 5 i0 (.int .u8 0) 1 1 Tryz.underlying57 hi0 hz0 hz1 hz2 rfl (by decide) _ _ _ rfl (hrow.alloc _) ⟨wr.heap.size, 0, none⟩ 1 1 [encU c] rfl rfl (cell_one_new _ _ _) (by simp [Value.oneCell', encU]) (by unfold maxLen; omega) (by omega) (by simp; omega) ?_; intro v' w3 hown' hg3 hnil3)
            | go_in)
          all_goals
            refine ⟨⟨k + 1, acc ++ [c], by omega, by simp, by simpa using hown', ⟨?_, ?_⟩, by simp; omega⟩, by simp [intOf]; omega⟩
            · exact (HX.out.1.alloc hsz _).grown hg3 (by simp; omega) (fun j hj => (hrow.lt j hj).1)
            · rw [HX.out.2]; show _ = wrL _; rw [HSN.out, HC.out]
        case false =>
          have HP : Aside0 (∀ w, Calls Tryz.prog 49 #[.int .u8 (c.toNat : Int)] w fun e w' => e = .returned (.bool false) ∧ w = w') := ⟨fun w => by have := plain_calls c w; rw [hp] at this; exact this⟩
          have HNP := Aside0.mk hp
          clear hp
          obtain ⟨m, hm⟩ : ∃ m, c.toNat % 16 = m := ⟨_, rfl⟩
          have hm16 : m < 16 := by omega
          have ha := and15 c
          rw [hm] at ha
          have hix := fun w => ixdig w m hm16
          obtain ⟨q, hq⟩ : ∃ q, c.toNat / 16 = q := ⟨_, rfl⟩
          have hq16 : q < 16 := by have := c.toNat_lt; omega
          have hs : (c.toNat : Int) / 16 = (q : Int) := by omega
          have hiq := fun w => ixdig w q hq16
          have HC : Aside0 (wrC c = [37, hexd q, hexd m]) := ⟨by unfold wrC; rw [HNP.out, if_neg (by decide), hm, hq]⟩
          clear hm hq
          go_wp2_with (fail)
          refine (HP.out _).mono ?_
          rintro e w1 ⟨rfl, rfl⟩
          have hdr := drew_row hrow
          go_wp2_with (fail)
          go_region_held3 (fun w' => True) (exact True.intro) (first | (refine step_append_at rfl (.tmp 22) (.tmp 29) 57 rfl w.heap.size 5 i0 (.int .u8 0) 1 1 Tryz.underlying57 hi0 hz0 hz1 hz2 rfl (by decide) _ acc.length (acc.map encU) (by simp [Act.eval, Act.put]) (hdr.alloc _) ⟨wr.heap.size, 0, none⟩ 3 3 [encU 37, encU (hexd q), encU (hexd m)] (by simp [Act.eval, Act.put]) rfl (cell_three_new _ _ _ _ _) (by simp [Value.oneCell', encU]) (by unfold maxLen; omega) (by omega) (by simp; omega) ?_; intro v' w3 hown' hg3 hnil3; have HO := Aside0.mk hown'; have HG := Aside0.mk hg3; clear hown' hg3 hnil3))
          go_wp2_with (fail)
          all_goals
            refine ⟨⟨k + 1, acc ++ [37, hexd q, hexd m], by omega, by simp, by simpa using HO.out, ⟨?_, ?_⟩, by simp; omega⟩, by simp [intOf]; omega⟩
            · exact ((below_drew1 HX.out.1).alloc (by simpa using hsz) _).grown HG.out (by simp; omega) (fun j hj => (hrow.lt j hj).1)
            · rw [HX.out.2]; show _ = wrL _; rw [HSN.out, HC.out]
      · have h1' : ¬ (k : Int) < (s.size : Int) := by omega
        have HK : Aside0 ((tl s).take k = tl s) := ⟨List.take_of_length_le (by rw [HL.out]; omega)⟩
        have hcv := own_str hrow rfl
        have HA : Aside0 (acc = wrL (tl s)) := ⟨by have := HX.out.2; rw [HK.out] at this; exact this⟩
        go_wp2_with (fail)
        all_goals (go_ret; exact ⟨by first | rfl | (rw [HA.out]; rfl), HX.out.1⟩)
end Go.Proofs.YtopcidphlleciaaGreatDoor.S

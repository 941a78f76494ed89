/- The walk of the document's Rising: what it hands back is 'rise'. -/
import Derived.Test.YtililldgddgdcaaSortP
import Derived.Test.YtililldgddgdcaaPAx0
import Derived.Laws.Cover1
import Derived.Sort.Walk0
import Derived.Deep.QuietTactic
import Derived.BigQuiet
namespace Go.Proofs.Ytililldgddgdcaa.RiseW
open Go.RowKit Go.Proofs.Ytililldgddgdcaa.PA Go.Proofs.YtililldgddgdcaaW.PrintWords Go.Proofs.YtililldgddgdcaaW.PrintLast Go.Proofs.YtililldgddgdcaaW.PrintMore Go.Proofs.Ytililldgddgdcaa.SortP
set_option linter.unusedVariables false
set_option linter.unusedSimpArgs false
abbrev tl (s : ByteArray) : List UInt8 := s.data.toList
theorem less_flip : ∀ (a b : List UInt8), (!(Op.bytesLess a b || a == b)) = Op.bytesLess b a := by
  intro a b
  rw [bytesLess_eq, bytesLess_eq]
  by_cases h : a < b
  · have h2 : ¬ b < a := fun h2 => bl_irrefl a (bl_trans h h2)
    simp [h, h2]
  · by_cases h3 : a = b
    · subst h3; simp [h]
    · have h4 : b < a := by
        rcases List.le_iff_lt_or_eq.1 (List.not_lt.1 h) with q | q
        · exact q
        · exact absurd q.symm h3
      simp [h, h3, h4]
theorem binOp_gtr_flip (t : TypeId) (a b : ByteArray) : binOp .gtr t (.string a) (.string b) = pure (.bool (Op.bytesLess b.toList a.toList)) := by
  rw [← less_flip]; exact binOp_string_gtr t a b
attribute [local go_sem 3000] binOp_gtr_flip
theorem less_tl (a b : ByteArray) : Op.bytesLess a.toList b.toList = decide (tl a < tl b) := by
  rw [bytesLess_eq, ByteArray.toList_eq, ByteArray.toList_eq]
theorem C_at {w : World} {A : Option Addr} {n : Nat} {xs : List ByteArray} (h : Kd.C Kd.string w A n xs) (j : Nat) (hj : j < xs.length) : ∃ ad, A = some ad ∧ w.cell? (ad.add j) = some (.string (xs[j]'hj)) := by
  have hn := h.1
  obtain ⟨ad, e, hc⟩ := h.2.2 (by omega)
  obtain ⟨c, hl, hk, hcell⟩ := hc j _ (List.getElem?_eq_getElem hj)
  refine ⟨ad, e, ?_⟩
  have hk' : c = [Value.string (xs[j]'hj)] := hk
  subst hk'
  have := hcell 0 _ rfl
  rw [show j * Kd.string.sz + 0 = j from by show j * 1 + 0 = j; omega] at this
  exact this
theorem own_shape {W : World} {base : Nat} {ok : Nat → Prop} {v : Value} {xs : List ByteArray} (h : Kd.R Kd.string 9 W base ok v xs) (hp : 0 < xs.length) : ∃ g cap, v = .slice (some ⟨g, 0, none⟩) xs.length cap ∧ xs.length ≤ cap ∧ ∀ o, W.frozen? ⟨g, o, none⟩ = false := by
  have ho := Kd.own_of_R (enc := Value.string) (h1 := fun _ => rfl) h
  rcases ho.2 with ⟨_, h2⟩ | ⟨g, cap, cur, rfl, hg, hh, hcap, _⟩
  · omega
  · exact ⟨g, cap, rfl, hcap, fun o => by simp [World.frozen?, hh]⟩
theorem set_mid (a b : List ByteArray) (p q : ByteArray) (k : Nat) (hk : a.length = k) : (a ++ p :: b).set k q = a ++ q :: b := by
  subst hk
  rw [List.set_append_right _ _ (Nat.le_refl _), Nat.sub_self]
  rfl
theorem mid_step (ys : List ByteArray) (m : Nat) (hm : m < ys.length) : ys.take (m + 1) ++ (ys[m]'hm) :: ys.drop (m + 1) = ys.take m ++ (ys[m]'hm) :: ys.drop m := by
  conv => rhs; rw [List.drop_eq_getElem_cons hm]
  rw [List.take_succ_eq_append_getElem hm, List.append_assoc]
  rfl
theorem mid_len (ys : List ByteArray) (j : Nat) (p : ByteArray) (hj : j ≤ ys.length) : (ys.take j ++ p :: ys.drop j).length = ys.length + 1 := by
  rw [List.length_append, List.length_cons, List.length_take, List.length_drop]
  omega
/-- The cells of an own row of strings: what each holds; none is frozen. -/
theorem own_cells {W : World} {base : Nat} {ok : Nat → Prop} {g n cap : Nat} {xs : List ByteArray} (h : Kd.R Kd.string 9 W base ok (.slice (some ⟨g, 0, none⟩) n cap) xs) (hp : 0 < xs.length) : (∀ j (hj : j < xs.length), W.cell? ⟨g, j, none⟩ = some (.string (xs[j]'hj))) ∧ ∀ o, W.frozen? ⟨g, o, none⟩ = false := by
  obtain ⟨A, c, he, _, hC⟩ := Kd.R_reads h
  injection he with h1 h2 h3
  subst h1
  obtain ⟨g', cap', hv, _, hf⟩ := own_shape h hp
  injection hv with e1 _ _
  injection e1 with e1
  injection e1 with e1 _ _
  subst e1
  refine ⟨fun j hj => ?_, hf⟩
  obtain ⟨ad, ha, hc⟩ := C_at hC j hj
  injection ha with ha
  subst ha
  have e : (⟨g, 0, none⟩ : Addr).add j = ⟨g, j, none⟩ := by unfold Addr.add; by_cases h : j = 0 <;> simp [h]
  rw [e] at hc
  exact hc
theorem own_ge {W : World} {base : Nat} {ok : Nat → Prop} {g n cap : Nat} {xs : List ByteArray} (h : Kd.R Kd.string 9 W base ok (.slice (some ⟨g, 0, none⟩) n cap) xs) : base ≤ g := own_base (Kd.own_of_R (enc := Value.string) (h1 := fun _ => rfl) h) g rfl
set_option maxHeartbeats 8000000 in
set_option maxRecDepth 100000 in
theorem rising_calls (A : Option Addr) (c : Nat) (l : List ByteArray) (w : World) (hA : Kd.C Kd.string w A l.length l) (hl : l.length ≤ 200) :
    Calls Try.prog 33 #[.slice A l.length c] w fun e w' => ∃ v ys, e = .returned v ∧ Kd.R Kd.string 9 w' w.heap.size (fun _ => True) v ys ∧ ys.map tl = rise (l.map tl) ∧ Below w.heap.size w w' := by
  have HA := Aside0.mk hA
  clear hA
  go_enter Try.func33, Try.ntmps33
  go_wp2
  go_loopg [3, 4] l.length (fun g v3 v4 w' => ∃ (i : Nat) (ys : List ByteArray), i ≤ l.length ∧ g = l.length - i ∧ v4 = .int .i64 i ∧ ys.length ≤ i ∧ Aside0 (Kd.R Kd.string 9 w' w.heap.size (fun _ => True) v3 ys) ∧ Aside0 (ys.map tl = rise ((l.take i).map tl)) ∧ Aside0 (Below w.heap.size w w'))
  case atStart => exact ⟨0, [], Nat.zero_le _, rfl, rfl, Nat.le_refl _, ⟨Kd.R_nil _ _ _ _ _⟩, ⟨rfl⟩, ⟨Below.refl _ _⟩⟩
  case round =>
    obtain ⟨i, ys, hi, rfl, rfl, hys, HR, HE, HB⟩ := hrel
    by_cases h1 : i < l.length
    · obtain ⟨B, kc, hv, hkc, hCy⟩ := Kd.R_reads HR.out
      subst hv
      obtain ⟨ad, rfl, hcell0⟩ := C_at HA.out i h1
      have hcell : wr.cell? (ad.add i) = some (.string (l[i]'h1)) := pw_cell_below HB.out hcell0
      have HCY := Aside0.mk hCy
      have HC0 := Aside0.mk hcell0
      have hstep : rise ((l.take (i + 1)).map tl) = ins (tl (l[i]'h1)) (rise ((l.take i).map tl)) := by
        rw [List.take_succ_eq_append_getElem h1, List.map_append]
        unfold rise
        rw [List.foldl_append]
        rfl
      have HS := Aside0.mk hstep
      have hris : Ris (ys.map tl) := by rw [HE.out]; exact fold_ris _ [] List.Pairwise.nil
      have HRis := Aside0.mk hris
      clear hCy hcell0 hstep hris
      generalize (l[i]'h1) = x at *
      have q1 : (i : Int) < (l.length : Int) := by omega
      have q0 : (0 : Int) ≤ (i : Int) := by omega
      go_wp2
      go_loopg [5] ys.length (fun g v5 w' => g ≤ ys.length ∧ v5 = .int .i64 g ∧ Aside0 (∀ j (h : j < ys.length), g ≤ j → tl x < tl (ys[j]'h)) ∧ ∃ q, w' = wr.drewN q)
      case atStart => exact ⟨Nat.le_refl _, rfl, ⟨fun j h hk => by omega⟩, 0, rfl⟩
      case round =>
        obtain ⟨hk, rfl, HG2, q, rfl⟩ := hrel
        by_cases hk0 : gk = 0
        · subst hk0
          have c0 : ¬ (0 : Int) < ((0 : Nat) : Int) := by omega
          have hins : ins (tl x) (ys.map tl) = (ys.map tl).take 0 ++ tl x :: (ys.map tl).drop 0 := by
            rw [ins_at (tl x) (ys.map tl) 0 HRis.out (by omega) (fun j h hj => by
              simp only [List.length_map] at h
              rw [List.getElem_map]
              exact HG2.out j h hj) (fun h => by omega), dif_neg (by omega)]
          have HINS := Aside0.mk hins
          clear hins
          go_wp2
          go_quiet (fail)
          go_wp2
          go_quiet (fail)
          go_wp2_with (at_builtin; refine Kd.R_append Kd.string (w0 := w) w.heap.size rfl (.tmp 45) (.tmp 46) 32 9 (.string ⟨#[]⟩) 16 rfl rfl (by kernel_rfl) rfl (by decide) (by decide) (.slice B ys.length kc) ys ⟨#[]⟩ [.string ⟨#[]⟩] (fun _ => True) (fun _ => False) rfl rfl rfl (fun k hk => hk.elim) (fun _ _ => trivial) (Kd.R_below HR.out (by repeat (first | exact Below.refl _ _ | apply pw_below_drewN))) (by repeat (first | exact HB.out | exact Below.refl _ _ | apply pw_below_drewN)) (by have := HB.out.size; simp; omega) (by omega) ?_; intro v1 w1 hR1 hb1 _ _; obtain ⟨g0, cap1, rfl, hcap1, hfz⟩ := own_shape hR1 (by simp); have HR1 := Aside0.mk hR1; have HB1 := Aside0.mk hb1; clear hR1 hb1)
          go_loopg [6] ys.length (fun g v6 w' => 0 ≤ g ∧ g ≤ ys.length ∧ v6 = .int .i64 g ∧ (∃ p, Aside0 (Kd.R Kd.string 9 w' w.heap.size (fun _ => True) (.slice (some ⟨g0, 0, none⟩) (ys.length + 1) cap1) (ys.take g ++ p :: ys.drop g))) ∧ Aside0 (Below w.heap.size w w'))
          case atStart => exact ⟨by omega, Nat.le_refl _, by first | rfl | (simp; done), ⟨⟨#[]⟩, ⟨by rw [List.take_length, List.drop_length]; simpa using HR1.out⟩⟩, HB1⟩
          case round =>
            obtain ⟨hgK, hgl, rfl, ⟨p, HRj⟩, HBj⟩ := hrel
            obtain ⟨hcs, hfs⟩ := own_cells HRj.out (by rw [mid_len _ _ _ hgl]; omega)
            by_cases hgk : 0 < gk
            · obtain ⟨m, rfl⟩ : ∃ m, gk = m + 1 := ⟨gk - 1, by omega⟩
              have hm : m < ys.length := by omega
              have hlenr := mid_len ys (m + 1) p (by omega)
              have k1 : wr.cell? ⟨g0, m, none⟩ = some (.string (ys[m]'hm)) := by
                have := hcs m (by omega)
                rw [List.getElem_append_left (by rw [List.length_take]; omega), List.getElem_take] at this
                exact this
              obtain ⟨cv, k2⟩ : ∃ cv, wr.cell? ⟨g0, m + 1, none⟩ = some (.string cv) := ⟨_, hcs (m + 1) (by omega)⟩
              have k3 := hfs (m + 1)
              have d1 : (m : Int) + 1 - 1 = (m : Int) := by omega
              have d2 : (0 : Int) ≤ (m : Int) := by omega
              have d3 : (m : Int) < (ys.length : Int) + 1 := by omega
              have d4 : (m : Int) + 1 < (ys.length : Int) + 1 := by omega
              have d5 : (0 : Int) ≤ (m : Int) + 1 := by omega
              have d6 : 0 < (m : Int) + 1 := by omega
              have hRp := Kd.R_putn HRj.out ((m + 1 : Nat) : Int) (ys[m]'hm)
              have hRp2 : Kd.R Kd.string 9 (wr.setCell ⟨g0, m + 1, none⟩ (.string (ys[m]'hm))) w.heap.size (fun _ => True) (.slice (some ⟨g0, 0, none⟩) (ys.length + 1) cap1) (ys.take m ++ (ys[m]'hm) :: ys.drop m) := by
                rw [← mid_step ys m hm, ← set_mid (ys.take (m + 1)) (ys.drop (m + 1)) p (ys[m]'hm) (m + 1) (by rw [List.length_take]; omega)]
                exact hRp
              have HRP := Aside0.mk hRp2
              have hg0 : w.heap.size ≤ g0 := own_ge HRj.out
              clear hRp hRp2 hcs hfs hlenr
              go_wp2
              go_roundg m
              case measure => omega
              case rel => exact ⟨by omega, by omega, by simp, ⟨_, HRP⟩, ⟨HBj.out.setCell hg0 _⟩⟩
            · have hgk2 : gk = 0 := by omega
              subst hgk2
              obtain ⟨cv, k2⟩ : ∃ cv, wr.cell? ⟨g0, 0, none⟩ = some (.string cv) := ⟨_, hcs 0 (by rw [mid_len _ _ _ hgl]; omega)⟩
              have k3 := hfs 0
              have d4 : (0 : Int) < (ys.length : Int) + 1 := by omega
              have d5 : (0 : Int) ≤ 0 := by omega
              have hcl : wr.cell? (ad.add i) = some (.string x) := pw_cell_below HBj.out HC0.out
              have hg0 : w.heap.size ≤ g0 := own_ge HRj.out
              have hRp := Kd.R_putn HRj.out ((0 : Nat) : Int) x
              have hRp2 : Kd.R Kd.string 9 (wr.setCell ⟨g0, 0, none⟩ (.string x)) w.heap.size (fun _ => True) (.slice (some ⟨g0, 0, none⟩) (ys.length + 1) cap1) (ys.take 0 ++ x :: ys.drop 0) := by
                rw [← set_mid (ys.take 0) (ys.drop 0) p x 0 (by rw [List.length_take]; omega)]
                exact hRp
              have HRP := Aside0.mk hRp2
              clear hRp hRp2 hcs hfs
              go_wp2
              go_roundg (l.length - (i + 1))
              case measure => omega
              case rel =>
                exact ⟨i + 1, ys.take 0 ++ x :: ys.drop 0, by omega, rfl, by simp, by rw [mid_len _ _ _ hgl]; omega, HRP, ⟨by rw [HS.out, ← HE.out, HINS.out]; simp⟩, ⟨HBj.out.setCell hg0 _⟩⟩
        · obtain ⟨m, rfl⟩ : ∃ m, gk = m + 1 := ⟨gk - 1, by omega⟩
          have hm : m < ys.length := by omega
          obtain ⟨bd, rfl, hcy⟩ := C_at HCY.out m hm
          have c0 : (0 : Int) < ((m + 1 : Nat) : Int) := by omega
          have c1 : (0 : Int) < (m : Int) + 1 := by omega
          have c2 : (m : Int) + 1 - 1 = (m : Int) := by omega
          have c3 : (0 : Int) ≤ (m : Int) := by omega
          have c4 : (m : Int) < (ys.length : Int) := by omega
          by_cases hxy : tl x < tl (ys[m]'hm)
          · have hlt : Op.bytesLess x.toList (ys[m]'hm).toList = true := by rw [less_tl]; exact decide_eq_true hxy
            have HXY := Aside0.mk hxy
            clear hxy
            generalize hy : (ys[m]'hm) = y at hcy hlt HXY
            have HY := Aside0.mk hy
            clear hy
            go_wp2
            go_quiet (fail)
            go_wp2
            go_roundg m
            case measure => omega
            case rel =>
              refine ⟨by omega, by simp, ⟨fun j h hj => ?_⟩, q + nq, rfl⟩
              by_cases e : j = m
              · subst e; rw [HY.out]; exact HXY.out
              · exact HG2.out j h (by omega)
          · have hlt : Op.bytesLess x.toList (ys[m]'hm).toList = false := by rw [less_tl]; exact decide_eq_false hxy
            have HXY := Aside0.mk hxy
            clear hxy
            by_cases hex : ys[m]'hm = x
            · have hstay : ins (tl x) (ys.map tl) = ys.map tl := by
                rw [ins_at (tl x) (ys.map tl) (m + 1) HRis.out (by simp; omega) (fun j h hj => by
                  simp only [List.length_map] at h
                  rw [List.getElem_map]
                  exact HG2.out j h hj) (fun _ h2 => by rw [List.getElem_map]; exact HXY.out), dif_pos ⟨by omega, by simp; omega⟩, if_pos (by rw [List.getElem_map]; show tl (ys[m]'hm) = tl x; rw [hex])]
              have HSt := Aside0.mk hstay
              clear hstay
              rw [hex] at hcy hlt
              clear hex
              have hee : (x.toList == x.toList) = true := by simp
              go_wp2
              go_quiet (fail)
              go_wp2
              go_quiet (fail)
              go_wp2
              go_roundg (l.length - (i + 1))
              case measure => omega
              case rel =>
                exact ⟨i + 1, ys, by omega, rfl, by simp, by omega, ⟨Kd.R_below HR.out (by repeat (first | exact Below.refl _ _ | apply pw_below_drewN))⟩, ⟨by rw [HS.out, ← HE.out, HSt.out]⟩, ⟨by repeat (first | exact HB.out | apply pw_below_drewN)⟩⟩
            · have hinss : ins (tl x) (ys.map tl) = (ys.map tl).take (m + 1) ++ tl x :: (ys.map tl).drop (m + 1) := by
                rw [ins_at (tl x) (ys.map tl) (m + 1) HRis.out (by simp; omega) (fun j h hj => by
                  simp only [List.length_map] at h
                  rw [List.getElem_map]
                  exact HG2.out j h hj) (fun _ h2 => by rw [List.getElem_map]; exact HXY.out), dif_pos ⟨by omega, by simp; omega⟩, if_neg (by
                    rw [List.getElem_map]
                    show ¬ tl (ys[m]'hm) = tl x
                    intro h
                    exact hex (ByteArray.ext (Array.toList_inj.1 h)))]
              have HINS := Aside0.mk hinss
              clear hinss
              have hee : ((ys[m]'hm).toList == x.toList) = false := by
                rw [ByteArray.toList_eq, ByteArray.toList_eq]
                simp only [beq_eq_false_iff_ne]
                intro h
                exact hex (ByteArray.ext (Array.toList_inj.1 h))
              have HEX := Aside0.mk hex
              clear hex
              generalize hy : (ys[m]'hm) = y at hcy hlt hee
              have HY := Aside0.mk hy
              clear hy
              go_wp2
              go_quiet (fail)
              go_wp2
              go_quiet (fail)
              go_wp2_with (at_builtin; refine Kd.R_append Kd.string (w0 := w) w.heap.size rfl (.tmp 45) (.tmp 46) 32 9 (.string ⟨#[]⟩) 16 rfl rfl (by kernel_rfl) rfl (by decide) (by decide) (.slice (some bd) ys.length kc) ys ⟨#[]⟩ [.string ⟨#[]⟩] (fun _ => True) (fun _ => False) rfl rfl rfl (fun k hk => hk.elim) (fun _ _ => trivial) (Kd.R_below HR.out (by repeat (first | exact Below.refl _ _ | apply pw_below_drewN))) (by repeat (first | exact HB.out | exact Below.refl _ _ | apply pw_below_drewN)) (by have := HB.out.size; simp; omega) (by omega) ?_; intro v1 w1 hR1 hb1 _ _; obtain ⟨g0, cap1, rfl, hcap1, hfz⟩ := own_shape hR1 (by simp); have HR1 := Aside0.mk hR1; have HB1 := Aside0.mk hb1; clear hR1 hb1)
              go_loopg [6] ys.length (fun g v6 w' => m + 1 ≤ g ∧ g ≤ ys.length ∧ v6 = .int .i64 g ∧ (∃ p, Aside0 (Kd.R Kd.string 9 w' w.heap.size (fun _ => True) (.slice (some ⟨g0, 0, none⟩) (ys.length + 1) cap1) (ys.take g ++ p :: ys.drop g))) ∧ Aside0 (Below w.heap.size w w'))
              case atStart => exact ⟨by omega, Nat.le_refl _, by first | rfl | (simp; done), ⟨⟨#[]⟩, ⟨by rw [List.take_length, List.drop_length]; simpa using HR1.out⟩⟩, HB1⟩
              case round =>
                obtain ⟨hgK, hgl, rfl, ⟨p, HRj⟩, HBj⟩ := hrel
                obtain ⟨hcs, hfs⟩ := own_cells HRj.out (by rw [mid_len _ _ _ hgl]; omega)
                by_cases hgk : m + 1 < gk
                · obtain ⟨r, rfl⟩ : ∃ r, gk = r + 1 := ⟨gk - 1, by omega⟩
                  have hr : r < ys.length := by omega
                  have hlenr := mid_len ys (r + 1) p (by omega)
                  have k1 : wr.cell? ⟨g0, r, none⟩ = some (.string (ys[r]'hr)) := by
                    have := hcs r (by omega)
                    rw [List.getElem_append_left (by rw [List.length_take]; omega), List.getElem_take] at this
                    exact this
                  obtain ⟨cv, k2⟩ : ∃ cv, wr.cell? ⟨g0, r + 1, none⟩ = some (.string cv) := ⟨_, hcs (r + 1) (by omega)⟩
                  have k3 := hfs (r + 1)
                  have d1 : (r : Int) + 1 - 1 = (r : Int) := by omega
                  have d2 : (0 : Int) ≤ (r : Int) := by omega
                  have d3 : (r : Int) < (ys.length : Int) + 1 := by omega
                  have d4 : (r : Int) + 1 < (ys.length : Int) + 1 := by omega
                  have d5 : (0 : Int) ≤ (r : Int) + 1 := by omega
                  have d6 : (m : Int) + 1 < (r : Int) + 1 := by omega
                  have d7 : (m : Int) < (r : Int) := by omega
                  have hRp := Kd.R_putn HRj.out ((r + 1 : Nat) : Int) (ys[r]'hr)
                  have hRp2 : Kd.R Kd.string 9 (wr.setCell ⟨g0, r + 1, none⟩ (.string (ys[r]'hr))) w.heap.size (fun _ => True) (.slice (some ⟨g0, 0, none⟩) (ys.length + 1) cap1) (ys.take r ++ (ys[r]'hr) :: ys.drop r) := by
                    rw [← mid_step ys r hr, ← set_mid (ys.take (r + 1)) (ys.drop (r + 1)) p (ys[r]'hr) (r + 1) (by rw [List.length_take]; omega)]
                    exact hRp
                  have HRP := Aside0.mk hRp2
                  have hg0 : w.heap.size ≤ g0 := own_ge HRj.out
                  clear hRp hRp2 hcs hfs hlenr
                  go_wp2
                  go_roundg r
                  case measure => omega
                  case rel => exact ⟨by omega, by omega, by simp, ⟨_, HRP⟩, ⟨HBj.out.setCell hg0 _⟩⟩
                · have hgk2 : gk = m + 1 := by omega
                  subst hgk2
                  obtain ⟨cv, k2⟩ : ∃ cv, wr.cell? ⟨g0, m + 1, none⟩ = some (.string cv) := ⟨_, hcs (m + 1) (by rw [mid_len _ _ _ hgl]; omega)⟩
                  have k3 := hfs (m + 1)
                  have d4 : (m : Int) + 1 < (ys.length : Int) + 1 := by omega
                  have d5 : (0 : Int) ≤ (m : Int) + 1 := by omega
                  have hcl : wr.cell? (ad.add i) = some (.string x) := pw_cell_below HBj.out HC0.out
                  have hg0 : w.heap.size ≤ g0 := own_ge HRj.out
                  have hRp := Kd.R_putn HRj.out ((m + 1 : Nat) : Int) x
                  have hRp2 : Kd.R Kd.string 9 (wr.setCell ⟨g0, m + 1, none⟩ (.string x)) w.heap.size (fun _ => True) (.slice (some ⟨g0, 0, none⟩) (ys.length + 1) cap1) (ys.take (m + 1) ++ x :: ys.drop (m + 1)) := by
                    rw [← set_mid (ys.take (m + 1)) (ys.drop (m + 1)) p x (m + 1) (by rw [List.length_take]; omega)]
                    exact hRp
                  have HRP := Aside0.mk hRp2
                  clear hRp hRp2 hcs hfs
                  go_wp2
                  go_roundg (l.length - (i + 1))
                  case measure => omega
                  case rel =>
                    exact ⟨i + 1, ys.take (m + 1) ++ x :: ys.drop (m + 1), by omega, rfl, by simp, by rw [mid_len _ _ _ hgl]; omega, HRP, ⟨by rw [HS.out, ← HE.out, HINS.out, List.map_append, List.map_cons, List.map_take, List.map_drop]⟩, ⟨HBj.out.setCell hg0 _⟩⟩
    · have h2 : i = l.length := by omega
      subst h2
      go_wp2
      go_ret
      refine ⟨_, ys, rfl, HR.out, ?_, HB.out⟩
      rw [HE.out, List.take_length]
end Go.Proofs.Ytililldgddgdcaa.RiseW

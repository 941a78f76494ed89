/- A table among the laid variables. -/
import Derived.Test.YtoiibjipjlkaeaaDoorBackA
import Derived.Lib.LaidTab
namespace Go.Proofs.YtoiibjipjlkaeaaDoor.PV
open Go.RowKit Go.Proofs.YtoiibjipjlkaeaaDoorW.PrintWords Go.Proofs.YtoiibjipjlkaeaaDoorW.PrintLast Go.Proofs.YtoiibjipjlkaeaaDoorW.PrintMore
attribute [local go_sem] max2_int min2_int max_two min_two max_three min_three max_four min_four   -- for this text's walks alone
set_option linter.unusedVariables false
set_option linter.unusedSimpArgs false

/-! A table among the laid variables. -/
theorem laid_tail {P : Program} {W : World} {n : String} {d : DataW Unit} {rest : List (String × DataW Unit)} {ps : List MemPlace} (h : DataW.LaidVars P W ((n, d) :: rest) ps) : ∃ q, DataW.LaidVars P W rest q := by
  obtain ⟨_, _, _, _, _, q, _, _, _, _, hr, _⟩ := h
  exact ⟨q, hr⟩
theorem tab_of_vars {P : Program} {W : World} {name : String} {k : IntKind} {zs : List Int} {rest : List (String × DataW Unit)} {g : Nat} {t e : TypeId} {n : Nat} {ps : List MemPlace}
    (hg : P.globalNamed name = some g) (hty : (P.globals[g]?).map (·.type) = some t) (ht : P.underlying t = some (.array n e)) (he : P.underlying e = some (.int k)) (hce : P.cellsOf e = 1) (hct : P.cellsOf t = n)
    (h : DataW.LaidVars P W ((name, Lib.tabData k zs) :: rest) ps) : Lib.TabIs P W name k zs := by
  obtain ⟨g', t', cs, fuel, p, q, hg', ht', hvar, hd, _, _⟩ := h
  obtain rfl := Option.some.inj (hg.symm.trans hg')
  obtain rfl := Option.some.inj (hty.symm.trans ht')
  unfold Lib.TabIs
  rw [hvar, ← Lib.cells_of_tab ht he hce hct hd]
theorem gt_of_laid {W : World} {x y : String × DataW Unit} {d : DataW Unit} {rest : List (String × DataW Unit)} (hd : d = Lib.tabData .u64 Lib.pow10Tab) (h : laidMet Tryd.prog (x :: y :: ("internal/strconv.uint64pow10", d) :: rest) W) : GT W := by
  obtain ⟨ps, h, _⟩ := h
  obtain ⟨_, h⟩ := laid_tail (n := x.1) (d := x.2) h
  obtain ⟨_, h⟩ := laid_tail (n := y.1) (d := y.2) h
  subst hd
  exact tab_of_vars (g := 1) (t := 184) (e := 82) (n := 20) (by kernel_rfl) (by kernel_rfl) Tryd.underlying184 Tryd.underlying82 (by kernel_rfl) (by kernel_rfl) h

end Go.Proofs.YtoiibjipjlkaeaaDoor.PV

/- The walk of powered. -/
import Derived.Test.YtcbgeakabchenaaDoorAddB
import Derived.Defers
import Derived.Recover
import Derived.Laws.Pointers
namespace Go.Proofs.YtcbgeakabchenaaDoor.D
open Go.RowKit Go.Extern.Stop Go.Stop Go.Extern Go.Proofs.YtcbgeakabchenaaDoorW.PrintWords Go.Proofs.YtcbgeakabchenaaDoorW.PrintLast Go.Proofs.YtcbgeakabchenaaDoorW.PrintMore
set_option linter.unusedVariables false
set_option linter.unusedSimpArgs false
theorem DK.other {w : World} {p b g i : Nat} {s : St} (h : DK w p b s) (h1 : g ≠ p) (h2 : g ≠ b) (v : Value) : DK (w.setCell ⟨g, i, none⟩ v) p b s :=
  ⟨(Below.heap_setCell w ⟨g, i, none⟩ v p (fun e => h1 e.symm)).trans h.1, h.2.1.kept (Below.heap_setCell w ⟨g, i, none⟩ v b (fun e => h2 e.symm)), h.2.2⟩
theorem Kp.new {p b g i : Nat} {u v : World} (h : Kp p b u v) (hg : u.heap.size ≤ g) (x : Value) : Kp p b u (v.setCell ⟨g, i, none⟩ x) :=
  ⟨h.os, h.tape, h.output, by simpa using h.size, fun k hk h1 h2 => (Below.heap_setCell v ⟨g, i, none⟩ x k (by show k ≠ g; omega)).trans (h.block k hk h1 h2)⟩
theorem FC.other {w : World} {e c g i : Nat} {name : ByteArray} (h : FC w e c name) (hg : g ≠ e) (v : Value) : FC (w.setCell ⟨g, i, none⟩ v) e c name := by
  have ne : ∀ o, (w.setCell ⟨g, i, none⟩ v).cell? ⟨e, o, none⟩ = w.cell? ⟨e, o, none⟩ := fun o => World.cell?_setCell_other _ _ _ _ (fun q => by injection q with q; exact hg q)
  exact ⟨(ne 0).trans h.1, (ne 1).trans h.2.1, (ne 2).trans h.2.2.1, (ne 3).trans h.2.2.2⟩
theorem eql20_nil (w : World) : (binOp .eql 20 .nilIface .nilIface).run Tryd.prog w = .ok (.bool true) w := by kernel_rfl
theorem eql20_lost (w : World) : (binOp .eql 20 (.iface 55 (.agg #[])) .nilIface).run Tryd.prog w = .ok (.bool false) w := by kernel_rfl
theorem assert98 (w : World) : (Instr.typeAssert (.iface 55 (.agg #[])) 20 55 true).run Tryd.prog w = .ok (.tuple #[.agg #[], .bool true]) w := by kernel_rfl
set_option maxRecDepth 100000 in
theorem catch_idle (a c : Addr) (w : World) :
    CallsD Tryd.prog 28 #[.pointer (some a), .pointer (some c)] .returning w fun e u' w' => e = .returned (.tuple #[]) ∧ u' = .returning ∧ w' = w := by
  have h1 := eql20_nil
  refine callsD_of_wpS Tryd.func28 rfl fun c₀ cs hu => ?_
  apply wpS_seq
  apply wpS_region
  simp [wpOpsS, go_sem, recoverD, hu, Tryd.ntmps28, Exit.thenS]
  refine wpS_of_wp ?_
  simp only [Act.put, Array.replicate, List.replicate]
  go_wp2_with (fail)
  refine ⟨rfl, .returning, ?_, _, results_none rfl _ _ _, rfl, rfl, rfl⟩
  cases c₀
  simp_all
set_option maxRecDepth 100000 in
theorem catch_lost (ga gc : Nat) (name : ByteArray) (older : List PanicEntry) (w : World) (hn : w.cell? ⟨ga, 0, none⟩ = some (.string name)) (hc : w.cell? ⟨gc, 0, none⟩ = some .nilIface) (hf : w.frozen? ⟨gc, 0, none⟩ = false) :
    CallsD Tryd.prog 28 #[.pointer (some ⟨ga, 0, none⟩), .pointer (some ⟨gc, 0, none⟩)] (.panicking (lostE :: older)) w fun e u' w' => e = .returned (.tuple #[]) ∧ u' = .panicking ({ v := .iface 55 (.agg #[]), recovered := true } :: older) ∧ ∃ g w1, FC w1 g 5 name ∧ Below w.heap.size w w1 ∧ w.heap.size ≤ g ∧ w' = w1.setCell ⟨gc, 0, none⟩ (.iface 50 (.pointer (some ⟨g, 0, none⟩))) := by
  have h1 := eql20_lost
  have h2 := assert98
  refine callsD_of_wpS Tryd.func28 rfl fun c₀ cs hu => ?_
  apply wpS_seq
  apply wpS_region
  simp [wpOpsS, go_sem, recoverD, hu, Tryd.ntmps28, Exit.thenS]
  refine wpS_of_wp ?_
  simp only [Act.put, Array.replicate, List.replicate]
  have hA : Below w.heap.size w (w.alloc (Obj.cells #[] 55)) := (Below.refl _ _).alloc (Nat.le_refl _) _
  have hn1 := pw_cell_below hA hn
  have hga : gc < w.heap.size := World.block_lt_of_cell? w _ hc
  go_wp2_with (fail)
  refine (fault_calls 5 name _).mono ?_
  rintro e w1 ⟨g, rfl, hg, hF, hb⟩
  have hb1 := below_step (w := w) hA hb
  have hc1 := pw_cell_below hb1 hc
  have hf1 := (hb1.frozen (p := ⟨gc, 0, none⟩) hga).trans hf
  have hgs : w.heap.size ≤ g := by have := hA.size; omega
  clear hb
  go_wp2_with (fail)
  refine ⟨rfl, _, ?_, _, results_none rfl _ _ _, rfl, rfl, g, w1, hF, hb1, hgs, rfl⟩
  rfl
set_option maxHeartbeats 16000000 in
set_option maxRecDepth 100000 in
theorem powered_calls (p b : Nat) (s' : St) (ok : Bool) (name : ByteArray) (g : Nat) (lb : Array Value) (w : World) (eg : ∀ args w, (callFunc g args).run Tryd.prog w = .ok (.enter g args) w) (hp : p < w.heap.size) (hpb : b < w.heap.size)
    (hf : ∀ w1, Below w.heap.size w w1 → Calls Tryd.prog g lb w1 fun e w' => ((ok = true ∧ e = .returned (.tuple #[])) ∨ (ok = false ∧ e = .panicked [lostE])) ∧ DK w' p b s' ∧ Kp p b w1 w') :
    Calls Tryd.prog 18 #[.pointer (some ⟨p, 0, none⟩), .string name, .func (.func g) #[] lb] w fun e w' => DK w' p b s' ∧ Kp p b w w' ∧ ((ok = true ∧ e = .returned .nilIface) ∨ (ok = false ∧ ∃ h, e = .returned (.iface 50 (.pointer (some ⟨h, 0, none⟩))) ∧ w.heap.size ≤ h ∧ FC w' h 5 name)) := by
  have hmf : ∀ (fn : Fn) (first cap : Array Value) (w : World), (Instr.makeFunc fn first cap).run Tryd.prog w = .ok (.func fn first cap) w := fun _ _ _ _ => rfl
  have HF := Aside0.mk hf
  clear hf
  go_enter_defers Tryd.func18, Tryd.ntmps18
  go_wp2_with (fail)
  refine (HF.out _ (((Below.refl _ _).alloc (Nat.le_refl _) _).alloc (by simp) _)).mono ?_
  have hA : Below w.heap.size w ((w.alloc (Obj.cells #[Value.string name] 9)).alloc (Obj.cells #[Value.nilIface] 28)) := ((Below.refl _ _).alloc (Nat.le_refl _) _).alloc (by simp) _
  have a4 : ((w.alloc (Obj.cells #[Value.string name] 9)).alloc (Obj.cells #[Value.nilIface] 28)).cell? ⟨w.heap.size, 0, none⟩ = some (.string name) := by go_simp
  have a6 : ((w.alloc (Obj.cells #[Value.string name] 9)).alloc (Obj.cells #[Value.nilIface] 28)).cell? ⟨w.heap.size + 1, 0, none⟩ = some .nilIface := by go_simp
  have af : ((w.alloc (Obj.cells #[Value.string name] 9)).alloc (Obj.cells #[Value.nilIface] 28)).frozen? ⟨w.heap.size + 1, 0, none⟩ = false := by go_simp
  rintro e w5 ⟨hor, hD5, hK5⟩
  have b4 := (hK5.cell (k := w.heap.size) (o := 0) (by simp; omega) (by omega) (by omega)).trans a4
  have b6 := (hK5.cell (k := w.heap.size + 1) (o := 0) (by simp) (by omega) (by omega)).trans a6
  have bf := (hK5.frz (k := w.heap.size + 1) (o := 0) (by simp) (by omega) (by omega)).trans af
  have HK5 := Aside0.mk ((Kp.of (p := p) (b := b) hA).trans hK5)
  have HD5 := Aside0.mk hD5
  have hz5 : w.heap.size + 2 ≤ w5.heap.size := by have := hK5.size; simp at this; omega
  clear hK5 hD5 a4 a6 af hA
  rcases hor with ⟨rfl, rfl⟩ | ⟨rfl, rfl⟩
  · go_wp2_with (fail)
    refine leaves_cons (f := 28) (args := #[.pointer (some ⟨w.heap.size, 0, none⟩), .pointer (some ⟨w.heap.size + 1, 0, none⟩)]) (by simp) (by simp [go_sem]) ?_
    refine (catch_idle _ _ _).mono ?_
    rintro e u' w'' ⟨rfl, rfl, rfl⟩
    have c6 : (w5.setCell ⟨w.heap.size + 1, 0, none⟩ .nilIface).cell? ⟨w.heap.size + 1, 0, none⟩ = some .nilIface := World.cell?_setCell_same _ _ _ b6
    simp [Leaves, settle, results, Tryd.results18, go_sem, c6]
    exact ⟨HD5.out.other (by omega) (by omega) _, HK5.out.new (by omega) _⟩
  · go_wp2_with (fail)
    refine leaves_cons (f := 28) (args := #[.pointer (some ⟨w.heap.size, 0, none⟩), .pointer (some ⟨w.heap.size + 1, 0, none⟩)]) (by simp) (by simp [go_sem]) ?_
    refine (catch_lost w.heap.size (w.heap.size + 1) name [] w5 b4 b6 bf).mono ?_
    rintro e u' w'' ⟨rfl, rfl, h, w6, hF6, hb6, hh, rfl⟩
    have d6 := pw_cell_below hb6 b6
    have c6 : (w6.setCell ⟨w.heap.size + 1, 0, none⟩ (.iface 50 (.pointer (some ⟨h, 0, none⟩)))).cell? ⟨w.heap.size + 1, 0, none⟩ = some (.iface 50 (.pointer (some ⟨h, 0, none⟩))) := World.cell?_setCell_same _ _ _ d6
    simp [Leaves, settle, results, Tryd.results18, go_sem, c6]
    exact ⟨(HD5.out.below hb6).other (by omega) (by omega) _, (HK5.out.trans (Kp.of hb6)).new (by omega) _, by omega, hF6.other (by omega) _⟩
end Go.Proofs.YtcbgeakabchenaaDoor.D

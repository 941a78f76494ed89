/- The walks of what version.Sort calls: the sort by the order of versions, compact, clip. -/
import Derived.Test.YthnajibbkinlkaaGreatDoorSortsI
import Derived.Test.YthnajibbkinlkaaGreatDoorShelfF
import Derived.Test.YthnajibbkinlkaaGreatDoorShelf
import Derived.Sort.OwnSorted
import Derived.Shelf.Slices.Cells
namespace Go.Proofs.YthnajibbkinlkaaGreatDoor.PV
open Go.RowKit Go.Proofs.YthnajibbkinlkaaGreatDoorW.PrintWords Go.Proofs.YthnajibbkinlkaaGreatDoorW.PrintLast Go.Proofs.YthnajibbkinlkaaGreatDoorW.PrintMore Go.Proofs.YthnajibbkinlkaaGreatDoor.SortsP
set_option linter.unusedVariables false
set_option linter.unusedSimpArgs false
open Go.Sort Go.Shelf
theorem encs_tl (ys : List ByteArray) : encs Value.string ys = (ys.map tl).map encStr := by
  unfold encs
  rw [List.map_map]
  apply List.map_congr_left
  intro y _
  rfl
theorem row_of {w : World} {base g n cap : Nat} {zs : List (List UInt8)} (h : w.ownsRow base 9 1 (.slice (some ⟨g, 0, none⟩) n cap) n (zs.map encStr)) :
    ∃ cur, base ≤ g ∧ w.heap[g]? = some (.cells cur 9 (0, 0)) ∧ n ≤ cap ∧ cap ≤ maxLen ∧ cur.size = cap * 1 ∧ cur.toList.take zs.length = zs.map encStr ∧ zs.length = n := by
  have hl := h.1
  rw [List.length_map, Nat.mul_one] at hl
  rcases h.2 with ⟨hv, _⟩ | ⟨g', cap', cur, hv, h1, h2, h3, h4, h5, h6⟩
  · cases hv
  · cases hv
    refine ⟨cur, h1, h2, h3, h4, h5, ?_, hl⟩
    rw [hl]
    rw [Nat.mul_one] at h6
    exact h6
theorem compact3 {w : World} {base g n cap : Nat} {zs : List (List UInt8)} (h : w.ownsRow base 9 1 (.slice (some ⟨g, 0, none⟩) n cap) n (zs.map encStr)) (hbs : base ≤ w.heap.size) (hn : n < 4611686018427387904) :
    Calls Tryz.prog 16 #[.slice (some ⟨g, 0, none⟩) n cap] w fun e w' => e = .returned (.slice (some ⟨g, 0, none⟩) (Lib.compact zs).length cap) ∧ (∀ j (hj : j < (Lib.compact zs).length), w'.cell? ⟨g, j, none⟩ = some (encStr ((Lib.compact zs)[j]'hj))) ∧ (∀ o, w'.frozen? ⟨g, o, none⟩ = false) ∧ base ≤ g ∧ g < w'.heap.size ∧ (Lib.compact zs).length ≤ cap ∧ Below base w w' := by
  obtain ⟨cur, h1, h2, h3, h4, h5, h6, rfl⟩ := row_of h
  refine (Tryz.slices_Compact_string g 0 cap zs w (holds_of_block h2 h6) (by omega) h3).mono ?_
  rintro e w' ⟨rfl, q, hw⟩
  have hle := Lib.compact_length_le zs
  replace hw := hw.trans (grow_empty _).symm
  subst hw
  have ho := ownsRow_sorted (n := q) (os := #[]) (ts := Lib.compact zs ++ List.replicate (zs.length - (Lib.compact zs).length) []) (by simp; omega) h1 h2 h3 h4 h5
  have hf := heap_sorted (n := q) (os := #[]) (Lib.compact zs ++ List.replicate (zs.length - (Lib.compact zs).length) []).toArray h2
  refine ⟨rfl, fun j hj => ?_, fun o => by simp only [World.frozen?, hf]; rfl, h1, by simp; exact (Array.getElem?_eq_some_iff.1 h2).1, by omega, Below.grown (Below.refl _ _) (grownBy_sorted _) hbs (fun k hk => ?_)⟩
  · rw [ho.cellAt j (by omega)]
    rw [List.getElem?_map, List.getElem?_append_left hj, List.getElem?_eq_getElem hj]
    rfl
  · injection hk with hk
    omega
set_option maxHeartbeats 8000000 in
theorem sclip_calls (g n cap : Nat) (w : World) (hn : n ≤ cap) : Calls Tryz.prog 15 #[.slice (some ⟨g, 0, none⟩) n cap] w fun e w' => e = .returned (.slice (some ⟨g, 0, none⟩) n n) ∧ w' = w := by
  have h1 : (n : Int) ≤ (cap : Int) := by omega
  have h2 : (0 : Int) ≤ (n : Int) := by omega
  go_enter Tryz.func15, Tryz.ntmps15
  go_wp2
  go_ret
  exact ⟨by simp, rfl⟩
set_option maxHeartbeats 8000000 in
theorem sclip_none (w : World) : Calls Tryz.prog 15 #[.slice none 0 0] w fun e w' => e = .returned (.slice none 0 0) ∧ w' = w := by
  go_enter Tryz.func15, Tryz.ntmps15
  go_wp2
  go_ret
  exact ⟨rfl, rfl⟩
def vtl (x : V) : BL := tl x.1
theorem putCells_map (off : Nat) (d : Array V) (c : Array Value) : putCells (fun x : V => encStr (vtl x)) off d c = putCells encStr off (d.map vtl) c := by
  unfold putCells
  apply Array.ext_getElem?
  intro k
  simp only [Array.getElem?_mapIdx, Array.size_map]
  cases hc : c[k]? with
  | none => rfl
  | some x =>
    simp only [Option.map_some, Option.some.injEq]
    by_cases h : off ≤ k ∧ k < off + d.size
    · rw [if_pos h, if_pos h]
      have hk : k - off < d.size := by omega
      rw [getElem!_pos d _ hk, getElem!_pos (d.map vtl) _ (by simpa using hk)]
      simp
    · rw [if_neg h, if_neg h]
theorem putRow_map (w : World) (g off : Nat) (d : Array V) : putRow (fun x : V => encStr (vtl x)) w g off d = putRow encStr w g off (d.map vtl) := by
  unfold putRow
  exact congrArg _ (funext fun c => putCells_map off d c)
theorem enc_val (x : V) : encStr (vtl x) = .string x.1 := rfl
theorem gw_sorted {w : World} {g n : Nat} {os : Array Obj} (d : Array V) (hG : GW w) (hg : 0 < g) : GW (sortWorld (fun x : V => encStr (vtl x)) w g 0 n d os) := by
  obtain ⟨m, hm⟩ := hG
  refine ⟨m, ?_⟩
  unfold sortWorld
  rw [putRow_map]
  have hgr := grownBy_sorted (w := w) (g := g) (n := n) (os := os) (d.map vtl)
  have hlt := World.block_lt_of_cell? w _ hm
  have hb := hgr.block 0 hlt (fun e => by injection e with e; omega)
  rw [World.cell?_of_block (w := w) (a := ⟨0, 0, none⟩) hb]
  exact hm
theorem perm_of {d d' : Array V} (h : PermIn 0 d.size d d') : d'.toList.Perm d.toList := by
  obtain ⟨h1, _, h3⟩ := h
  have e1 : d'.extract 0 d.size = d' := by rw [← h1]; simp
  have e2 : d.extract 0 d.size = d := by simp
  rw [e1, e2] at h3
  exact h3
theorem sorted_of {d : Array V} {n : Nat} (hn : d.size = n) (h : SortedIn (Go.Proofs.ltOf cfV) 0 n d) : (d.toList.map (·.1)).Pairwise (fun a b => a = b ∨ ltB a b) := by
  subst hn
  rw [List.pairwise_map, List.pairwise_iff_getElem]
  intro i j hi hj hij
  have hs := h i j (Nat.zero_le _) hij (by simpa using hj)
  have hi' : i < d.size := by simpa using hi
  have hj' : j < d.size := by simpa using hj
  rw [getElem!_pos d j hj', getElem!_pos d i hi'] at hs
  unfold Go.Proofs.ltOf at hs
  simp only [decide_eq_false_iff_not] at hs
  have ha := to_cmpVer.anti (vGet (d[j]'hj')) (vGet (d[i]'hi'))
  show (d[i]'hi').1 = (d[j]'hj').1 ∨ ltB (d[i]'hi').1 (d[j]'hj').1
  by_cases hz : cfV (d[i]'hi') (d[j]'hj') = 0
  · exact .inl (by rw [cfV_zero hz])
  · refine .inr (cfV_lt ?_)
    unfold cfV at *
    omega
theorem sortf3 {w : World} {base g n cap : Nat} {xs : List V} (h : w.ownsRow base 9 1 (.slice (some ⟨g, 0, none⟩) n cap) n ((xs.map vtl).map encStr)) (hG : GW w) (hb0 : 0 < base) (hbs : base ≤ w.heap.size) (hn : n < 4611686018427387904) :
    Calls Tryz.prog 13 #[.slice (some ⟨g, 0, none⟩) n cap, .func (.func 14) #[] #[]] w fun e w' => e = .returned (.tuple #[]) ∧ ∃ ys : List V, ys.Perm xs ∧ (ys.map (·.1)).Pairwise (fun a b => a = b ∨ ltB a b) ∧ w'.ownsRow base 9 1 (.slice (some ⟨g, 0, none⟩) n cap) n ((ys.map vtl).map encStr) ∧ Below base w w' := by
  obtain ⟨cur, h1, h2, h3, h4, h5, h6, hlen⟩ := row_of h
  have hg : g < w.heap.size := (Array.getElem?_eq_some_iff.1 h2).1
  have hlx : xs.length = n := by simpa using hlen
  have hH : Holds (fun x : V => encStr (vtl x)) w g 0 xs.toArray := by
    intro j hj
    have hj' : j < xs.length := by simpa using hj
    have hh := holds_of_block h2 h6 j (by simpa using hj')
    rw [getElem!_pos _ _ (by simpa using hj')] at hh ⊢
    simpa using hh
  have eg : ∀ args w, (callFunc 14 args).run Tryz.prog w = .ok (.enter 14 args) w := enters_of Tryz.func14 (by kernel_rfl) rfl
  have hcmp : Go.Proofs.CmpLays1 Tryz.prog 14 #[] (fun x : V => encStr (vtl x)) cfV g 0 xs.toArray.size w := by
    intro m os dk hs x y
    refine (closure_calls x y _ (gw_sorted dk hG (by omega))).mono ?_
    rintro e w' ⟨he, hb⟩
    obtain ⟨q, os', hw⟩ := hb.grown
    exact ⟨he, q, os', hw⟩
  have hs : xs.toArray.size = n := by simpa using hlx
  have hcon := Go.Proofs.Any.slices_SortFunc Go.Proofs.Tryz.sortF (fun x : V => encStr (vtl x)) (fun _ => rfl) cfV swoV 14 #[] g 0 cap xs.toArray w eg hcmp hH hg (by omega)
  change Calls Tryz.prog 13 _ _ _ at hcon
  rw [hs] at hcon
  refine hcon.mono ?_
  rintro e w' ⟨rfl, d', m, os, hp, hso, rfl⟩
  have hsz : d'.size = n := by rw [hp.1, hs]
  refine ⟨rfl, d'.toList, ?_, sorted_of hsz hso, ?_, ?_⟩
  · have := perm_of (d := xs.toArray) (by rw [hs]; exact hp)
    simpa using this
  · unfold sortWorld
    rw [putRow_map]
    have hown := ownsRow_sorted (n := m) (os := os) (ts := d'.toList.map vtl) (ss := xs.map vtl) (by simp [hsz, hlx]) h1 h2 (by simpa [hlx] using h3) h4 h5
    rw [List.length_map, hlx] at hown
    have e : (d'.map vtl) = (d'.toList.map vtl).toArray := by apply Array.ext'; simp
    rw [e]
    exact hown
  · unfold sortWorld
    rw [putRow_map]
    exact Below.grown (Below.refl _ _) (grownBy_sorted _) hbs (fun k hk => by injection hk with hk; omega)
end Go.Proofs.YthnajibbkinlkaaGreatDoor.PV

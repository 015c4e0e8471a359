/-
  slices.Grow of nothing, slices.Concat of three: a new list of all of them.
-/
import Derived.Test.YtgglbjniclkkpaaDoorAsks
import Derived.Maps.AppendAt
import Derived.Lib.AppendZerosOnto
import Derived.Lib.SlFresh
import Derived.Laws.AppendOwnNone
import Derived.OwnWalk
import Derived.LoopN
namespace Go.Proofs.YtgglbjniclkkpaaDoor
open Go.RowKit

theorem info3 : (Tryd.prog.info? 3).map (fun i => (i.zero, i.size, i.bytes)) = some (some (.int .i64 0), 1, 8) := by kernel_rfl

theorem add_none (b o j : Nat) : (⟨b, o, none⟩ : Addr).add j = ⟨b, o + j, none⟩ := by
  unfold Addr.add
  by_cases h : j = 0 <;> simp [h]
theorem map_get {ys : List Int} {j : Nat} {u : Value} (h : (ys.map (Value.int .i64))[j]? = some u) : u = .int .i64 (ys.getD j 0) := by
  rw [List.getElem?_map] at h
  cases e : ys[j]? with
  | none => rw [e] at h; cases h
  | some x =>
    rw [e] at h
    cases h
    rw [List.getD_eq_getElem?_getD, e]
    rfl
/-- append of a list of ints onto a list of the call's own. -/
theorem run_append_ints (w : World) (base : Nat) (v : Value) (n : Nat) (xs : List Value) (hown : w.ownsRow base 3 1 v n xs) (A : Option Addr) (m c : Nat) (ys : List Int) (hy : IntsAt w A m ys)
    (hs : n + m ≤ 1048576) (hbase : base ≤ w.heap.size) :
    ∃ v' w', (Builtin.append_ #[23, 23] 23 #[v, .slice A m c]).run Tryd.prog w = .ok v' w' ∧ w'.ownsRow base 3 1 v' (n + m) (xs ++ ys.map (Value.int .i64)) ∧ w.grownBy w' v.ownBlock ∧ (v'.ownBlock = v.ownBlock ∨ v'.ownBlock = some w.heap.size) := by
  obtain ⟨i0, hi, hz0, hz1, hz2⟩ := info_parts info3
  rcases A with _ | ad
  · have hm : m = 0 := by
      rcases Nat.eq_zero_or_pos m with h0 | h0
      · exact h0
      · obtain ⟨b, o, h, _⟩ := hy.2 h0
        cases h
    subst hm
    obtain rfl := hy.zero
    have hrun : (Builtin.append_ #[23, 23] 23 #[v, .slice none 0 c]).run Tryd.prog w = .ok v w := by
      rcases hown.2 with ⟨rfl, rfl⟩ | ⟨g, cap, cur, rfl, _, _, hnc, _⟩
      · simp [Builtin.append_, run_underlying Tryd.underlying23, sizeOf, typeInfo, hi, Builtin.lenOf, Builtin.firstCells]
      · simp [Builtin.append_, run_underlying Tryd.underlying23, sizeOf, typeInfo, hi, Builtin.lenOf, Builtin.firstCells, hnc, storeCells]
    exact ⟨v, w, hrun, by simpa using hown, World.grownBy.refl w _, .inl rfl⟩
  · have hl : (ys.map (Value.int .i64)).length = m * 1 := by simp [hy.1]
    have hnews : ∀ j u, (ys.map (Value.int .i64))[j]? = some u → w.cell? (ad.add j) = some u := by
      intro j u hu
      have hj : j < m := by
        have hh := (List.getElem?_eq_some_iff.1 hu).1
        rw [List.length_map, hy.1] at hh
        exact hh
      obtain ⟨b, o, h, hc⟩ := hy.2 (by omega)
      have hcj := hc j hj
      rw [Option.some.inj h, add_none, map_get hu]
      exact hcj
    obtain ⟨v', w', h1, h2, h3, _, h5⟩ := run_append_own_at (P := Tryd.prog) w base 23 23 3 i0 (.int .i64 0) 1 8 Tryd.underlying23 hi hz0 hz1 hz2 rfl (by decide) v n xs hown ad m c _ hl hnews
      (by intro u hu; simp at hu; obtain ⟨x, _, rfl⟩ := hu; rfl) (by unfold maxLen; omega) (by omega) hbase
    exact ⟨v', w', h1, h2, h3, h5⟩
/-- What is owned, as a list of ints. -/
theorem ints_of_own {w : World} {base : Nat} {v : Value} {n : Nat} {xs : List Int} (h : w.ownsRow base 3 1 v n (xs.map (Value.int .i64))) : ∃ A c, v = .slice A n c ∧ n ≤ c ∧ IntsAt w A n xs := by
  have hl : xs.length = n := by have := h.1; simpa using this
  rcases h.2 with ⟨rfl, rfl⟩ | ⟨g, cap, cur, rfl, _, _, hc, _⟩
  · exact ⟨none, 0, rfl, Nat.le_refl _, hl, fun h0 => absurd h0 (by omega)⟩
  · refine ⟨some ⟨g, 0, none⟩, cap, rfl, hc, hl, fun h0 => ⟨g, 0, rfl, fun j hj => ?_⟩⟩
    have := h.cells (g := g) rfl j (.int .i64 (xs.getD j 0)) (by simp [List.getD_eq_getElem?_getD, List.getElem?_eq_getElem (show j < xs.length by omega)])
    rw [add_none] at this
    exact this

def GrowsOwn (w : World) (r : Ending) (w' : World) : Prop := ∃ v, r = .returned v ∧ w'.ownsRow w.heap.size 3 1 v 0 [] ∧ Below w.heap.size w w'
set_option maxRecDepth 100000 in
set_option maxHeartbeats 1000000 in
theorem grow_any (n : Nat) (w : World) (hn : n ≤ 1048576) : Calls Tryd.prog 70 #[.slice none 0 0, .int .i64 n] w (GrowsOwn w) := by
  rcases Nat.eq_zero_or_pos n with h0 | h0
  · subst h0
    go_enter Tryd.func70, Tryd.ntmps70
    go_wp2
    go_ret
    exact ⟨_, rfl, World.ownsRow_nil _ _ _ _, Below.refl _ _⟩
  obtain ⟨i0, hi, hz0, hz1, hz2⟩ := info_parts info3
  have hold : (Builtin.firstCells i0.size 0 (.slice none 0 0)).run Tryd.prog w.drew = .ok ([] : List Value).toArray w.drew := run_firstCells_none w.drew i0.size 0 0 0
  have hr := Lib.run_append_grow_zeros w 23 3 23 3 i0 (.int .i64 0) .i64 .i64 Tryd.underlying23 Tryd.underlying3 hi hz0 none 0 0 [] hold n h0 (by omega) (by omega) (by omega) (by rw [hz2]; omega) (growslice_fits (by omega) (by rw [hz2]; omega))
  have hge := grownCap_ge w (0 + n) 0 3
  have hle := grownCap_le_maxLen w (0 + n) 0 3 (by unfold maxLen; omega)
  obtain ⟨G, hG⟩ : ∃ G, G = grownCap w (0 + n) 0 3 := ⟨_, rfl⟩
  rw [← hG] at hr hge hle
  rw [Nat.zero_add] at hr hge
  obtain ⟨C, hC⟩ : ∃ C : Array Value, C = ([] : List Value).toArray ++ Builtin.zeroCells (Value.int .i64 0).cells n ++ Builtin.zeroCells (Value.int .i64 0).cells (G - n) := ⟨_, rfl⟩
  rw [← hC] at hr
  have hCs : C.size = G := by rw [hC]; simp [size_zeroCells, Value.cells]; omega
  have hown := Lib.hid (World.ownsRow_made (size := 1) (e := 3) (base := w.heap.size) w.drew C G (Nat.le_refl _) hle (by simpa using hCs))
  have hG63 : G ≤ 9223372036854775807 := by unfold maxLen at hle; omega
  clear hG hC hCs hle hold hi hz0 hz1 hz2
  go_enter Tryd.func70, Tryd.ntmps70
  go_wp2_with (at_builtin; refine Lib.wpList_append_run _ rfl _ _ _ _ rfl _ _ rfl rfl _ _ hr ?_)
  go_ret
  exact ⟨_, rfl, hown.out, ((Below.refl _ _).alloc (Nat.le_refl _) _).drew⟩

/-- The three lists lie side by side in one row, as the caller's list of lists. -/
structure Three (w : World) (g : Nat) (A2 A3 A4 : Option Addr) (n2 c2 n3 c3 n4 c4 : Nat) : Prop where
  r0 : w.cell? ⟨g, 0, none⟩ = some (.slice A2 n2 c2)
  r1 : w.cell? ⟨g, 1, none⟩ = some (.slice A3 n3 c3)
  r2 : w.cell? ⟨g, 2, none⟩ = some (.slice A4 n4 c4)
theorem Three.up {w W : World} {g : Nat} {A2 A3 A4 : Option Addr} {n2 c2 n3 c3 n4 c4 : Nat} (h : Three w g A2 A3 A4 n2 c2 n3 c3 n4 c4) (hb : Below w.heap.size w W) : Three W g A2 A3 A4 n2 c2 n3 c3 n4 c4 := ⟨cell_up hb h.r0, cell_up hb h.r1, cell_up hb h.r2⟩

set_option maxRecDepth 100000 in
set_option maxHeartbeats 4000000 in
theorem concat_any (g : Nat) (A2 A3 A4 : Option Addr) (n2 c2 n3 c3 n4 c4 : Nat) (x2 x3 x4 : List Int) (w : World) (h3 : Three w g A2 A3 A4 n2 c2 n3 c3 n4 c4) (i2 : IntsAt w A2 n2 x2) (i3 : IntsAt w A3 n3 x3) (i4 : IntsAt w A4 n4 x4)
    (b2 : n2 ≤ 65536) (b3 : n3 ≤ 65536) (b4 : n4 ≤ 65536) :
    Calls Tryd.prog 39 #[.slice (some ⟨g, 0, none⟩) 3 3] w (GivesInts w (n2 + n3 + n4) (x2 ++ x3 ++ x4)) := by
  have H3 := Lib.hid h3
  have I2 := Lib.hid i2
  have I3 := Lib.hid i3
  have I4 := Lib.hid i4
  have r0 := h3.r0
  have r1 := h3.r1
  have r2 := h3.r2
  have HG := Lib.hid (fun W => grow_any (n2 + n3 + n4) W (by omega))
  clear h3 i2 i3 i4
  go_enter Tryd.func39, Tryd.ntmps39
  go_wp2
  refine wp_loop_rounds 4 ?_
  rw [rounds_succ]
  go_wp2
  rw [rounds_succ]
  go_wp2
  rw [rounds_succ]
  go_wp2
  rw [rounds_succ]
  go_wp2_with fail
  refine (HG.out w).mono ?_
  rintro r w0 ⟨v0, rfl, ho0, hb0⟩
  have O0 := Lib.hid ho0
  have B0 := Lib.hid hb0
  have s0 := cell_up hb0 r0
  have s1 := cell_up hb0 r1
  have s2 := cell_up hb0 r2
  clear ho0 hb0
  go_wp2_with fail
  refine wp_loop_rounds 4 ?_
  rw [rounds_succ]
  obtain ⟨v1, w1, hr1, ho1, hg1, hB1⟩ := run_append_ints w0 w.heap.size v0 0 [] O0.out A2 n2 c2 x2 (I2.out.up B0.out) (by omega) B0.out.size
  go_wp2_with (at_builtin; refine Lib.wpList_append_run_sl _ rfl _ _ _ rfl _ _ rfl rfl hr1 ?_)
  have O1 := Lib.hid ho1
  have hq1 : ∀ q, v0.ownBlock = some q → w.heap.size ≤ q := fun q e => (O0.out.lt q e).1
  have B1 := Lib.hid (B0.out.grown hg1 B0.out.size hq1)
  have s1' := cell_up B1.out r1
  have s2' := cell_up B1.out r2
  clear ho1 hg1 hB1 hq1 hr1 s0 s1 s2
  rw [rounds_succ]
  obtain ⟨v2, w2, hr2, ho2, hg2, hB2⟩ := run_append_ints w1 w.heap.size v1 (0 + n2) _ O1.out A3 n3 c3 x3 (I3.out.up B1.out) (by omega) B1.out.size
  go_wp2_with (at_builtin; refine Lib.wpList_append_run_sl _ rfl _ _ _ rfl _ _ rfl rfl hr2 ?_)
  have O2 := Lib.hid ho2
  have hq2 : ∀ q, v1.ownBlock = some q → w.heap.size ≤ q := fun q e => (O1.out.lt q e).1
  have B2 := Lib.hid (B1.out.grown hg2 B1.out.size hq2)
  have s2'' := cell_up B2.out r2
  clear ho2 hg2 hB2 hq2 hr2 s1' s2'
  rw [rounds_succ]
  obtain ⟨v3, w3, hr3, ho3, hg3, hB3⟩ := run_append_ints w2 w.heap.size v2 (0 + n2 + n3) _ O2.out A4 n4 c4 x4 (I4.out.up B2.out) (by omega) B2.out.size
  go_wp2_with (at_builtin; refine Lib.wpList_append_run_sl _ rfl _ _ _ rfl _ _ rfl rfl hr3 ?_)
  have O3 := Lib.hid ho3
  have hq3 : ∀ q, v2.ownBlock = some q → w.heap.size ≤ q := fun q e => (O2.out.lt q e).1
  have B3 := Lib.hid (B2.out.grown hg3 B2.out.size hq3)
  clear ho3 hg3 hB3 hq3 hr3 s2''
  rw [rounds_succ]
  go_wp2
  go_ret
  have ho := O3.out
  rw [show ([] : List Value) ++ x2.map (Value.int .i64) ++ x3.map (Value.int .i64) ++ x4.map (Value.int .i64) = (x2 ++ x3 ++ x4).map (Value.int .i64) by simp, show 0 + n2 + n3 + n4 = n2 + n3 + n4 by omega] at ho
  obtain ⟨A, cp, hv, hcp, hI⟩ := ints_of_own ho
  exact ⟨A, cp, by rw [← hv]; rfl, hcp, hI, B3.out⟩
end Go.Proofs.YtgglbjniclkkpaaDoor

/-
  Code as an argument, opened: what lies where, and that its numbers are of 64 bits.
-/
import Derived.Test.YtgglbjniclkkpaaDoorOpen
import Derived.Test.YtgglbjniclkkpaaDoorImagePlain
namespace Go.Proofs.YtgglbjniclkkpaaDoor
open Go.Joins Go.ChangeShapes Go.WideShapes Go.RowKit Go.Deep
set_option linter.unusedVariables false

theorem okN_wf {n : Int} (h : (Lit.int .i64 n).wf = true) : okN n := by
  unfold okN
  simp [Lit.wf, IntKind.min, IntKind.max, IntKind.signed, IntKind.bits] at h
  omega
section
variable {H : Type} {enc : TypeId × Value → H} {w : World} {base : Nat} {spare : Nat → Bool} {held : Bool}
/-- A slice of ints among the arguments: what lies in it. -/
theorem ints_open_ok {t e : TypeId} {fuel : Nat} {v : Value} {x : DataW H × List MemPlace} (ht : Tryd.prog.underlying t = some (.slice e)) (he : Tryd.prog.underlying e = some (.int .i64)) (hc : Tryd.prog.cellsOf e = 1)
    (h : DataW.trod enc Tryd.prog w base spare held fuel t [v] = some x) : ∃ A n c xs, v = .slice A n c ∧ n ≤ c ∧ IntsAt w A n xs ∧ ∀ x ∈ xs, okN x := by
  rcases open_ints ht he hc h with ⟨h0, _⟩ | ⟨a, len, cap, zs, hv, _, hl, _, hz, _, hcell, hwf⟩
  · cases h0; exact ⟨none, 0, 0, [], rfl, Nat.le_refl _, IntsAt.nil _ _, fun x hx => by cases hx⟩
  · cases hv
    have hlz : len ≤ zs.length := by rw [hz]; split <;> omega
    refine ⟨some a, len, cap, zs.take len, rfl, hl, ⟨by rw [List.length_take]; omega, fun hn => ?_⟩, fun x hx => okN_wf (hwf x (List.mem_of_mem_take hx))⟩
    obtain ⟨b, o, sp⟩ := a
    have hs : sp = none := World.cell?_spot (hcell 0 (by omega))
    subst hs
    refine ⟨b, o, rfl, fun j hj => ?_⟩
    have h1 := hcell j (by omega)
    rw [add_none] at h1
    rw [h1, List.getD_eq_getElem?_getD, List.getD_eq_getElem?_getD, List.getElem?_take_of_lt hj]
set_option maxRecDepth 100000 in
/-- A slice of steps among the arguments: what lies in it. -/
theorem steps_open_ok {fuel : Nat} {v : Value} {x : DataW H × List MemPlace} (h : DataW.trod enc Tryd.prog w base spare held fuel 24 [v] = some x) : ∃ A n c cs, v = .slice A n c ∧ n ≤ c ∧ StepsAt w A n cs ∧ ∀ s ∈ cs, OkStp s := by
  rcases open_slice Tryd.underlying24 h with ⟨h0, _⟩ | ⟨a, len, cap, m, n, D, Pl, hv, _, hl, _, hm, _, hi⟩
  · cases h0; exact ⟨none, 0, 0, [], rfl, Nat.le_refl _, ⟨rfl, fun h => absurd h (by omega)⟩, fun x hx => by cases hx⟩
  · cases hv
    have hlm : len ≤ m := by rw [hm]; split <;> omega
    have each : ∀ i, ∃ s : Stp, i < len → w.cell? (a.add (i * 5 + 0)) = some (.int .i64 s.c) ∧ w.cell? (a.add (i * 5 + 1)) = some (.int .i64 s.d) ∧ w.cell? (a.add (i * 5 + 2)) = some (.int .i64 s.a) ∧ w.cell? (a.add (i * 5 + 3)) = some (.int .i64 s.b) ∧ w.cell? (a.add (i * 5 + 4)) = some (.int .i64 s.e) ∧ OkStp s := by
      intro i
      by_cases him : i < len
      · obtain ⟨cs', hc, ht'⟩ := hi i (by omega)
        rw [show Tryd.prog.cellsOf 31 = 5 by kernel_rfl] at hc
        obtain ⟨ys, n', _, _, hlen, hyl, hf⟩ := DataW.trod_struct Tryd.underlying31 ht'
        obtain ⟨_, hcl, hat⟩ := World.cells?_some hc
        have c1 : Tryd.prog.cellsOf 3 = 1 := by kernel_rfl
        match cs', hcl, ys, hyl with
        | [c0, c1', c2, c3, c4], _, [y0, y1, y2, y3, y4], _ =>
          have g0 : DataW.trod enc Tryd.prog w base spare held n' 3 (([c0, c1', c2, c3, c4].drop 0).take (Tryd.prog.cellsOf 3)) = some y0 := hf 0 _ rfl
          have g1 : DataW.trod enc Tryd.prog w base spare held n' 3 (([c0, c1', c2, c3, c4].drop 1).take (Tryd.prog.cellsOf 3)) = some y1 := hf 1 _ rfl
          have g2 : DataW.trod enc Tryd.prog w base spare held n' 3 (([c0, c1', c2, c3, c4].drop 2).take (Tryd.prog.cellsOf 3)) = some y2 := hf 2 _ rfl
          have g3 : DataW.trod enc Tryd.prog w base spare held n' 3 (([c0, c1', c2, c3, c4].drop 3).take (Tryd.prog.cellsOf 3)) = some y3 := hf 3 _ rfl
          have g4 : DataW.trod enc Tryd.prog w base spare held n' 3 (([c0, c1', c2, c3, c4].drop 4).take (Tryd.prog.cellsOf 3)) = some y4 := hf 4 _ rfl
          rw [c1] at g0 g1 g2 g3 g4
          obtain ⟨m0, e0, _, k0⟩ := DataW.trod_int Tryd.underlying3 g0
          obtain ⟨m1, e1, _, k1⟩ := DataW.trod_int Tryd.underlying3 g1
          obtain ⟨m2, e2, _, k2⟩ := DataW.trod_int Tryd.underlying3 g2
          obtain ⟨m3, e3, _, k3⟩ := DataW.trod_int Tryd.underlying3 g3
          obtain ⟨m4, e4, _, k4⟩ := DataW.trod_int Tryd.underlying3 g4
          cases e0; cases e1; cases e2; cases e3; cases e4
          exact ⟨⟨m0, m1, m2, m3, m4⟩, fun _ => ⟨hat 0 (by omega), by rw [← Go.Deep.add_add]; exact hat 1 (by omega), by rw [← Go.Deep.add_add]; exact hat 2 (by omega), by rw [← Go.Deep.add_add]; exact hat 3 (by omega), by rw [← Go.Deep.add_add]; exact hat 4 (by omega), okN_wf k0, okN_wf k1, okN_wf k2, okN_wf k3, okN_wf k4⟩⟩
      · exact ⟨⟨0, 0, 0, 0, 0⟩, fun h => absurd h him⟩
    obtain ⟨f, hf⟩ := Classical.axiomOfChoice each
    refine ⟨some a, len, cap, (List.range len).map f, rfl, hl, ⟨by simp, fun hn => ?_⟩, fun s hs => ?_⟩
    rotate_left
    · obtain ⟨i, hi1, rfl⟩ := List.mem_map.1 hs
      exact (hf i (List.mem_range.1 hi1)).2.2.2.2.2
    obtain ⟨b, o, sp⟩ := a
    have hs : sp = none := World.cell?_spot (hf 0 hn).1
    subst hs
    refine ⟨b, o, rfl, fun j hj => ⟨f j, by simp [hj], ?_⟩⟩
    have h1 := hf j hj
    simp only [add_none] at h1
    obtain ⟨x0, x1, x2, x3, x4, _⟩ := h1
    exact ⟨by simpa only [Nat.add_zero, Nat.add_assoc] using x0, by simpa only [Nat.add_zero, Nat.add_assoc] using x1, by simpa only [Nat.add_zero, Nat.add_assoc] using x2, by simpa only [Nat.add_zero, Nat.add_assoc] using x3, by simpa only [Nat.add_zero, Nat.add_assoc] using x4⟩
set_option maxRecDepth 100000 in
/-- Code among the arguments. -/
theorem net_open_ok {r : Reach} {b0 : Nat} {v : Value} {d : DataW H} {p : List MemPlace} (hv : Value.okWide Tryd.prog w r b0 26 v) (h : DataW.Trod enc Tryd.prog w base spare held 26 v d p) :
    ∃ (P : Int) (A1 A2 A3 A4 A5 A6 : Option Addr) (n1 c1 n2 c2 n3 c3 n4 c4 n5 c5 n6 c6 : Nat) (N : NetP), v = .agg #[.int .i64 P, .slice A1 n1 c1, .slice A2 n2 c2, .slice A3 n3 c3, .slice A4 n4 c4, .slice A5 n5 c5, .slice A6 n6 c6] ∧ OkNet N ∧ (P ≤ 300 → n1 ≤ 300 → n2 ≤ 30 → n3 ≤ 30 → n4 ≤ 60 → n5 ≤ 60 → n6 ≤ 120 → NetAt w P A1 A2 A3 A4 A5 A6 n1 c1 n2 c2 n3 c3 n4 c4 n5 c5 n6 c6 N) := by
  obtain ⟨v0, v1, v2, v3, v4, v5, v6, y0, y1, y2, y3, y4, y5, y6, n, rfl, _, _, h0, h1, h2, h3, h4, h5, h6⟩ := open_agg7 Tryd.underlying26 (by kernel_rfl) (by kernel_rfl) hv h
  obtain ⟨P, e0, _, kp⟩ := DataW.trod_int Tryd.underlying3 h0
  cases e0
  obtain ⟨A1, n1, c1, x1, rfl, k1, i1, o1⟩ := ints_open_ok Tryd.underlying22 Tryd.underlying2 (by kernel_rfl) h1
  obtain ⟨A2, n2, c2, x2, rfl, k2, i2, o2⟩ := ints_open_ok Tryd.underlying23 Tryd.underlying3 (by kernel_rfl) h2
  obtain ⟨A3, n3, c3, x3, rfl, k3, i3, o3⟩ := ints_open_ok Tryd.underlying23 Tryd.underlying3 (by kernel_rfl) h3
  obtain ⟨A4, n4, c4, x4, rfl, k4, i4, o4⟩ := ints_open_ok Tryd.underlying23 Tryd.underlying3 (by kernel_rfl) h4
  obtain ⟨A5, n5, c5, x5, rfl, k5, i5, o5⟩ := ints_open_ok Tryd.underlying22 Tryd.underlying2 (by kernel_rfl) h5
  obtain ⟨A6, n6, c6, x6, rfl, k6, i6, o6⟩ := steps_open_ok h6
  exact ⟨P, A1, A2, A3, A4, A5, A6, n1, c1, n2, c2, n3, c3, n4, c4, n5, c5, n6, c6, ⟨P, x1, x2, x3, x4, x5, x6⟩, rfl, ⟨okN_wf kp, o1, o2, o3, o4, o5, o6⟩, fun p0 b1 b2 b3 b4 b5 b6 => ⟨rfl, i1, i2, i3, i4, i5, i6, p0, b1, b2, b3, b4, b5, b6, k2⟩⟩
end
end Go.Proofs.YtgglbjniclkkpaaDoor

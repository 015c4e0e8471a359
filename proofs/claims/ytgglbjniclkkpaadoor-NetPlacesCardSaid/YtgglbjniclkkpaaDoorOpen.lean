/-
  Code as an argument, opened: what lies where.
-/
import Derived.Test.YtgglbjniclkkpaaDoorCheck
import Derived.Lib.SmallJoins
import Derived.Deep.Slices
import Derived.Deep.Fields
import Derived.ChangeSame
import Derived.ChangeSlices
namespace Go.Proofs.YtgglbjniclkkpaaDoor
open Go.Joins Go.ChangeShapes Go.WideShapes Go.RowKit Go.Deep
set_option linter.unusedVariables false

section
variable {H : Type} {enc : TypeId × Value → H} {P : Program} {w : World} {base : Nat} {spare : Nat → Bool} {held : Bool}
/-- A struct of seven fields of one cell, by value. -/
theorem open_agg7 {r : Reach} {b0 : Nat} {t : TypeId} {f0 f1 f2 f3 f4 f5 f6 : Field} {v : Value} {d : DataW H} {p : List MemPlace} (hs : P.underlying t = some (.struct #[f0, f1, f2, f3, f4, f5, f6])) (hone : oneCellFields P #[f0, f1, f2, f3, f4, f5, f6] = true) (hC : P.cellsOf t = 7)
    (hv : Value.okWide P w r b0 t v) (h : DataW.Trod enc P w base spare held t v d p) :
    ∃ (v0 v1 v2 v3 v4 v5 v6 : Value) (y0 y1 y2 y3 y4 y5 y6 : DataW H × List MemPlace) (n : Nat), v = .agg #[v0, v1, v2, v3, v4, v5, v6] ∧ d = .agg [y0.1, y1.1, y2.1, y3.1, y4.1, y5.1, y6.1] ∧ p = y0.2 ++ (y1.2 ++ (y2.2 ++ (y3.2 ++ (y4.2 ++ (y5.2 ++ y6.2))))) ∧
      DataW.trod enc P w base spare held n f0.type [v0] = some y0 ∧ DataW.trod enc P w base spare held n f1.type [v1] = some y1 ∧ DataW.trod enc P w base spare held n f2.type [v2] = some y2 ∧ DataW.trod enc P w base spare held n f3.type [v3] = some y3 ∧ DataW.trod enc P w base spare held n f4.type [v4] = some y4 ∧ DataW.trod enc P w base spare held n f5.type [v5] = some y5 ∧ DataW.trod enc P w base spare held n f6.type [v6] = some y6 := by
  obtain ⟨cs, rfl, hsz⟩ := okWide_struct hs hv
  obtain ⟨l⟩ := cs
  match l, hsz.trans hC with
  | [c0, c1, c2, c3, c4, c5, c6], _ =>
    obtain ⟨fuel, hf⟩ := h
    obtain ⟨xs, n, _, hx, _, hlen, hg⟩ := DataW.trod_struct hs hf
    obtain ⟨o0, k0⟩ := hone_of hone 0 f0 rfl
    obtain ⟨o1, k1⟩ := hone_of hone 1 f1 rfl
    obtain ⟨o2, k2⟩ := hone_of hone 2 f2 rfl
    obtain ⟨o3, k3⟩ := hone_of hone 3 f3 rfl
    obtain ⟨o4, k4⟩ := hone_of hone 4 f4 rfl
    obtain ⟨o5, k5⟩ := hone_of hone 5 f5 rfl
    obtain ⟨o6, k6⟩ := hone_of hone 6 f6 rfl
    match xs, hlen with
    | [y0, y1, y2, y3, y4, y5, y6], _ =>
      simp only [Prod.mk.injEq] at hx
      exact ⟨c0, c1, c2, c3, c4, c5, c6, y0, y1, y2, y3, y4, y5, y6, n, rfl, by simpa using hx.1, by simpa using hx.2, by simpa [Value.cells, o0, k0] using hg 0 f0 rfl, by simpa [Value.cells, o1, k1] using hg 1 f1 rfl, by simpa [Value.cells, o2, k2] using hg 2 f2 rfl, by simpa [Value.cells, o3, k3] using hg 3 f3 rfl, by simpa [Value.cells, o4, k4] using hg 4 f4 rfl, by simpa [Value.cells, o5, k5] using hg 5 f5 rfl, by simpa [Value.cells, o6, k6] using hg 6 f6 rfl⟩
end

section
variable {H : Type} {enc : TypeId × Value → H} {w : World} {base : Nat} {spare : Nat → Bool} {held : Bool}
/-- A slice of ints among the arguments: what lies in it. -/
theorem ints_open {t e : TypeId} {fuel : Nat} {v : Value} {x : DataW H × List MemPlace} (ht : Tryd.prog.underlying t = some (.slice e)) (he : Tryd.prog.underlying e = some (.int .i64)) (hc : Tryd.prog.cellsOf e = 1)
    (h : DataW.trod enc Tryd.prog w base spare held fuel t [v] = some x) : ∃ A n c xs, v = .slice A n c ∧ n ≤ c ∧ IntsAt w A n xs := by
  rcases open_ints ht he hc h with ⟨h0, _⟩ | ⟨a, len, cap, zs, hv, _, hl, _, hz, _, hcell, _⟩
  · cases h0; exact ⟨none, 0, 0, [], rfl, Nat.le_refl _, IntsAt.nil _ _⟩
  · cases hv
    have hlz : len ≤ zs.length := by rw [hz]; split <;> omega
    refine ⟨some a, len, cap, zs.take len, rfl, hl, by rw [List.length_take]; omega, fun hn => ?_⟩
    obtain ⟨b, o, sp⟩ := a
    have hs : sp = none := World.cell?_spot (hcell 0 (by omega))
    subst hs
    refine ⟨b, o, rfl, fun j hj => ?_⟩
    have h1 := hcell j (by omega)
    rw [add_none] at h1
    rw [h1, List.getD_eq_getElem?_getD, List.getD_eq_getElem?_getD, List.getElem?_take_of_lt hj]
set_option maxRecDepth 100000 in
/-- A slice of steps among the arguments: what lies in it. -/
theorem steps_open {fuel : Nat} {v : Value} {x : DataW H × List MemPlace} (h : DataW.trod enc Tryd.prog w base spare held fuel 24 [v] = some x) : ∃ A n c cs, v = .slice A n c ∧ n ≤ c ∧ StepsAt w A n cs := by
  rcases open_slice Tryd.underlying24 h with ⟨h0, _⟩ | ⟨a, len, cap, m, n, D, Pl, hv, _, hl, _, hm, _, hi⟩
  · cases h0; exact ⟨none, 0, 0, [], rfl, Nat.le_refl _, rfl, fun h => absurd h (by omega)⟩
  · cases hv
    have hlm : len ≤ m := by rw [hm]; split <;> omega
    have each : ∀ i, ∃ s : Stp, i < len → w.cell? (a.add (i * 5 + 0)) = some (.int .i64 s.c) ∧ w.cell? (a.add (i * 5 + 1)) = some (.int .i64 s.d) ∧ w.cell? (a.add (i * 5 + 2)) = some (.int .i64 s.a) ∧ w.cell? (a.add (i * 5 + 3)) = some (.int .i64 s.b) ∧ w.cell? (a.add (i * 5 + 4)) = some (.int .i64 s.e) := by
      intro i
      by_cases him : i < len
      · obtain ⟨cs', hc, ht'⟩ := hi i (by omega)
        rw [show Tryd.prog.cellsOf 31 = 5 by kernel_rfl] at hc
        obtain ⟨ys, n', _, _, hlen, hyl, hf⟩ := DataW.trod_struct Tryd.underlying31 ht'
        obtain ⟨_, hcl, hat⟩ := World.cells?_some hc
        have c1 : Tryd.prog.cellsOf 3 = 1 := by kernel_rfl
        match cs', hcl, ys, hyl with
        | [c0, c1', c2, c3, c4], _, [y0, y1, y2, y3, y4], _ =>
          have g0 : DataW.trod enc Tryd.prog w base spare held n' 3 (([c0, c1', c2, c3, c4].drop 0).take (Tryd.prog.cellsOf 3)) = some y0 := hf 0 _ rfl
          have g1 : DataW.trod enc Tryd.prog w base spare held n' 3 (([c0, c1', c2, c3, c4].drop 1).take (Tryd.prog.cellsOf 3)) = some y1 := hf 1 _ rfl
          have g2 : DataW.trod enc Tryd.prog w base spare held n' 3 (([c0, c1', c2, c3, c4].drop 2).take (Tryd.prog.cellsOf 3)) = some y2 := hf 2 _ rfl
          have g3 : DataW.trod enc Tryd.prog w base spare held n' 3 (([c0, c1', c2, c3, c4].drop 3).take (Tryd.prog.cellsOf 3)) = some y3 := hf 3 _ rfl
          have g4 : DataW.trod enc Tryd.prog w base spare held n' 3 (([c0, c1', c2, c3, c4].drop 4).take (Tryd.prog.cellsOf 3)) = some y4 := hf 4 _ rfl
          rw [c1] at g0 g1 g2 g3 g4
          obtain ⟨m0, e0, _⟩ := DataW.trod_int Tryd.underlying3 g0
          obtain ⟨m1, e1, _⟩ := DataW.trod_int Tryd.underlying3 g1
          obtain ⟨m2, e2, _⟩ := DataW.trod_int Tryd.underlying3 g2
          obtain ⟨m3, e3, _⟩ := DataW.trod_int Tryd.underlying3 g3
          obtain ⟨m4, e4, _⟩ := DataW.trod_int Tryd.underlying3 g4
          cases e0; cases e1; cases e2; cases e3; cases e4
          exact ⟨⟨m0, m1, m2, m3, m4⟩, fun _ => ⟨hat 0 (by omega), by rw [← Go.Deep.add_add]; exact hat 1 (by omega), by rw [← Go.Deep.add_add]; exact hat 2 (by omega), by rw [← Go.Deep.add_add]; exact hat 3 (by omega), by rw [← Go.Deep.add_add]; exact hat 4 (by omega)⟩⟩
      · exact ⟨⟨0, 0, 0, 0, 0⟩, fun h => absurd h him⟩
    obtain ⟨f, hf⟩ := Classical.axiomOfChoice each
    refine ⟨some a, len, cap, (List.range len).map f, rfl, hl, by simp, fun hn => ?_⟩
    obtain ⟨b, o, sp⟩ := a
    have hs : sp = none := World.cell?_spot (hf 0 hn).1
    subst hs
    refine ⟨b, o, rfl, fun j hj => ⟨f j, by simp [hj], ?_⟩⟩
    have h1 := hf j hj
    simp only [add_none] at h1
    simpa only [Nat.add_zero, Nat.add_assoc] using h1
set_option maxRecDepth 100000 in
/-- Code among the arguments. -/
theorem net_open {r : Reach} {b0 : Nat} {v : Value} {d : DataW H} {p : List MemPlace} (hv : Value.okWide Tryd.prog w r b0 26 v) (h : DataW.Trod enc Tryd.prog w base spare held 26 v d p) :
    ∃ (P : Int) (A1 A2 A3 A4 A5 A6 : Option Addr) (n1 c1 n2 c2 n3 c3 n4 c4 n5 c5 n6 c6 : Nat) (N : NetP), v = .agg #[.int .i64 P, .slice A1 n1 c1, .slice A2 n2 c2, .slice A3 n3 c3, .slice A4 n4 c4, .slice A5 n5 c5, .slice A6 n6 c6] ∧ (P ≤ 300 → n1 ≤ 300 → n2 ≤ 30 → n3 ≤ 30 → n4 ≤ 60 → n5 ≤ 60 → n6 ≤ 120 → NetAt w P A1 A2 A3 A4 A5 A6 n1 c1 n2 c2 n3 c3 n4 c4 n5 c5 n6 c6 N) := by
  obtain ⟨v0, v1, v2, v3, v4, v5, v6, y0, y1, y2, y3, y4, y5, y6, n, rfl, _, _, h0, h1, h2, h3, h4, h5, h6⟩ := open_agg7 Tryd.underlying26 (by kernel_rfl) (by kernel_rfl) hv h
  obtain ⟨P, e0, _⟩ := DataW.trod_int Tryd.underlying3 h0
  cases e0
  obtain ⟨A1, n1, c1, x1, rfl, k1, i1⟩ := ints_open Tryd.underlying22 Tryd.underlying2 (by kernel_rfl) h1
  obtain ⟨A2, n2, c2, x2, rfl, k2, i2⟩ := ints_open Tryd.underlying23 Tryd.underlying3 (by kernel_rfl) h2
  obtain ⟨A3, n3, c3, x3, rfl, k3, i3⟩ := ints_open Tryd.underlying23 Tryd.underlying3 (by kernel_rfl) h3
  obtain ⟨A4, n4, c4, x4, rfl, k4, i4⟩ := ints_open Tryd.underlying23 Tryd.underlying3 (by kernel_rfl) h4
  obtain ⟨A5, n5, c5, x5, rfl, k5, i5⟩ := ints_open Tryd.underlying22 Tryd.underlying2 (by kernel_rfl) h5
  obtain ⟨A6, n6, c6, x6, rfl, k6, i6⟩ := steps_open h6
  exact ⟨P, A1, A2, A3, A4, A5, A6, n1, c1, n2, c2, n3, c3, n4, c4, n5, c5, n6, c6, ⟨P, x1, x2, x3, x4, x5, x6⟩, rfl, fun p0 b1 b2 b3 b4 b5 b6 => ⟨rfl, i1, i2, i3, i4, i5, i6, p0, b1, b2, b3, b4, b5, b6, k2⟩⟩
end
end Go.Proofs.YtgglbjniclkkpaaDoor

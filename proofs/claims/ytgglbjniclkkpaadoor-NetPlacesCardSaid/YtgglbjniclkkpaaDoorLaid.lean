/-
  What the listed variables give a walk; a world that meets the condition.
-/
import Derived.Test.YtgglbjniclkkpaaDoorRows
import Derived.Test.YtgglbjniclkkpaaDoorIs
import Derived.Test.YtgglbjniclkkpaaDoorRefCheck
import Derived.ChangeSame
import Derived.ChangeVars
import Derived.JoinedOf
import Derived.RowKit
import Derived.RowKitTokens
import Derived.LaidLaws
import Derived.LaidHandle
import Derived.Stop.Joined
namespace Go.Proofs.YtgglbjniclkkpaaDoor
open Go.ChangeShapes Go.WideShapes Go.RowKit

theorem own : ownKnob Tryd.prog.godebug = none := by kernel_rfl
theorem et : Tryd.prog.globalNamed "errors.errorType" = some 1 := by kernel_rfl
theorem fi : Tryd.prog.globalNamed "clepsydra/clepsydraref.Fine" = some 0 := by kernel_rfl
theorem fiType : (Tryd.prog.globals[0]?).map (·.type) = some 38 := by kernel_rfl
theorem rt : (Tryd.prog.cutTypes.find? (·.1 == "internal/reflectlite.rtype")).map (·.2) = some 151 := by kernel_rfl
theorem oneRow : ((List.range Tryd.prog.types.size).filter fun t => Tryd.prog.rowNamed t [101, 114, 114, 111, 114]) = [34] := by kernel_rfl

def laidBoth : List (String × DataW Unit) := [("errors.errorType", Rows.laid_errors_errorType), ("clepsydra/clepsydraref.Fine", Rows.laid_clepsydra_clepsydraref_Fine)]
def laidOne : List (String × DataW Unit) := [("errors.errorType", Rows.laid_errors_errorType)]
theorem handle_of_met {W : World} (h : handlesMet Tryd.prog laidOne W) : HandleAt W := by
  obtain ⟨name, u, ty, e1, e2, e3, e4, e5⟩ := h _ (List.mem_singleton.2 rfl)
  have en : name = [101, 114, 114, 111, 114] := (Option.some.inj e1).symm
  subst en
  obtain rfl := Option.some.inj (rt.symm.trans e2)
  have hm : ty ∈ (List.range Tryd.prog.types.size).filter fun t => Tryd.prog.rowNamed t [101, 114, 114, 111, 114] := List.mem_filter.2 ⟨List.mem_range.2 e3, e4⟩
  rw [oneRow] at hm
  obtain rfl := List.mem_singleton.1 hm
  have hh : typeHandle Tryd.prog 34 = .pointer (some ⟨2, 34, none⟩) := by kernel_rfl
  rw [hh] at e5
  have hc := World.var?_cell et e5 0
  simp at hc
  exact hc
theorem handle_of_both {W : World} (h : laidMetH Tryd.prog laidBoth W) : HandleAt W := handle_of_met (show laidMet Tryd.prog [("clepsydra/clepsydraref.Fine", Rows.laid_clepsydra_clepsydraref_Fine)] W ∧ handlesMet Tryd.prog laidOne W from h).2
theorem handle_of_one {W : World} (h : laidMetH Tryd.prog laidOne W) : HandleAt W := handle_of_met (show laidMet Tryd.prog [] W ∧ handlesMet Tryd.prog laidOne W from h).2
set_option maxRecDepth 100000 in
theorem fine_of_both {W : World} (h : laidMetH Tryd.prog laidBoth W) : FineAt W := by
  obtain ⟨ps, ⟨g, t, cs, fuel, p, q, hg, ht, hv, hd, _, _⟩, _, _⟩ := (show laidMet Tryd.prog [("clepsydra/clepsydraref.Fine", Rows.laid_clepsydra_clepsydraref_Fine)] W ∧ handlesMet Tryd.prog laidOne W from h).1
  obtain rfl := Option.some.inj (fi.symm.trans hg)
  obtain rfl := Option.some.inj (fiType.symm.trans ht)
  obtain ⟨xs, n, _, hx, hl, hxl, hf⟩ := DataW.trod_struct Tryd.underlying38 hd
  obtain ⟨l⟩ := cs
  have c2 : Tryd.prog.cellsOf 38 = 2 := by kernel_rfl
  match l, hl.trans c2, xs, hxl with
  | [c0, c1], _, [y0, y1], _ =>
    have ca : Tryd.prog.cellsOf 36 = 1 := by kernel_rfl
    have cb : Tryd.prog.cellsOf 3 = 1 := by kernel_rfl
    have h0 : DataW.trod _ Tryd.prog W 0 _ _ n 36 (([c0, c1].drop 0).take (Tryd.prog.cellsOf 36)) = some y0 := hf 0 _ rfl
    have h1 : DataW.trod _ Tryd.prog W 0 _ _ n 3 (([c0, c1].drop 1).take (Tryd.prog.cellsOf 3)) = some y1 := hf 1 _ rfl
    obtain ⟨m0, e0, d0, _⟩ := DataW.trod_int Tryd.underlying36 h0
    obtain ⟨m1, e1, d1, _⟩ := DataW.trod_int Tryd.underlying3 h1
    rw [ca] at e0
    rw [cb] at e1
    cases e0
    cases e1
    subst d0 d1
    simp [Rows.laid_clepsydra_clepsydraref_Fine] at hx
    obtain ⟨⟨rfl, rfl⟩, _⟩ := hx
    exact ⟨by simpa using World.var?_cell fi hv 0, by simpa using World.var?_cell fi hv 1⟩

/-- A world that meets the condition: the settled one, the variables' cells laid. -/
noncomputable def laidWorld (os : Os) : World :=
  let w0 := World.holding Tryd.prog os ⟨#[], #[], []⟩
  { w0 with heap := (w0.heap.modify 0 fun
      | .cells _ t frozen => .cells #[.int .i64 0, .int .i64 (-1)] t frozen
      | o => o).modify 1 fun
      | .cells _ t frozen => .cells #[.iface 151 (.agg #[.pointer (some ⟨2, 34, none⟩)])] t frozen
      | o => o }
theorem laidWorld_both (os : Os) (args : Array Value) : laidMetH Tryd.prog laidBoth ((laidWorld os).forCall (fun _ _ => 0) ⟨#[], args, []⟩).memory :=
  laidMetH_of_parts (laidMet_of_run (ps := [.cell 0 0, .cell 0 1]) 8 (by kernel_rfl) (by kernel_rfl) (by kernel_rfl)) (by kernel_rfl)
theorem laidWorld_one (os : Os) (args : Array Value) : laidMetH Tryd.prog laidOne ((laidWorld os).forCall (fun _ _ => 0) ⟨#[], args, []⟩).memory :=
  laidMetH_of_parts (laidMet_nil _ _) (by kernel_rfl)
end Go.Proofs.YtgglbjniclkkpaaDoor

/-
  What the listed variables and the world's shape give a walk; a world that meets the condition; the wrap that hands both on.
-/
import Derived.Test.YtgglbjniclkkpaaGreatDoorRows
import Derived.Test.YtgglbjniclkkpaaGreatDoorIs
import Derived.Test.YtgglbjniclkkpaaGreatDoorConv
import Derived.ChangeSame
import Derived.ChangeVars
import Derived.JoinedOf
import Derived.RowKit
import Derived.RowKitTokens
import Derived.LaidLaws
import Derived.LaidHandle
import Derived.Stop.Joined
import Derived.Lay
import Derived.LaidSub
import Derived.Lib.LaidTab
import Derived.Lib.LaidU8
import Derived.Shelf.Vars
import Derived.Handed
namespace Go.Proofs.YtgglbjniclkkpaaGreatDoor
open Go.ChangeShapes Go.WideShapes Go.RowKit

theorem own : ownKnob Tryz.prog.godebug = none := by kernel_rfl
theorem et : Tryz.prog.globalNamed "errors.errorType" = some 4 := by kernel_rfl
theorem fi : Tryz.prog.globalNamed "clepsydra/clepsydraref.Fine" = some 0 := by kernel_rfl
theorem fiType : (Tryz.prog.globals[0]?).map (·.type) = some 26 := by kernel_rfl
theorem sy : Tryz.prog.globalNamed "strconv.ErrSyntax" = some 1 := by kernel_rfl
theorem syType : (Tryz.prog.globals[1]?).map (·.type) = some 30 := by kernel_rfl
theorem ra : Tryz.prog.globalNamed "strconv.ErrRange" = some 2 := by kernel_rfl
theorem raType : (Tryz.prog.globals[2]?).map (·.type) = some 30 := by kernel_rfl
theorem rt : (Tryz.prog.cutTypes.find? (·.1 == "internal/reflectlite.rtype")).map (·.2) = some 136 := by kernel_rfl
theorem oneRow : ((List.range Tryz.prog.types.size).filter fun t => Tryz.prog.rowNamed t [101, 114, 114, 111, 114]) = [30] := by kernel_rfl

def laidAll : List (String × DataW Unit) := [("math/bits.deBruijn32tab", Rows.laid_math_bits_deBruijn32tab), ("math/bits.deBruijn64tab", Rows.laid_math_bits_deBruijn64tab), ("internal/strconv.uint64pow10", Rows.laid_internal_strconv_uint64pow10), ("unicode/utf8.acceptRanges", Rows.laid_unicode_utf8_acceptRanges), ("errors.errorType", Rows.laid_errors_errorType), ("strconv.ErrRange", Rows.laid_strconv_ErrRange), ("strconv.ErrSyntax", Rows.laid_strconv_ErrSyntax), ("clepsydra/clepsydraref.Fine", Rows.laid_clepsydra_clepsydraref_Fine), ("unicode/utf8.first", Rows.laid_unicode_utf8_first)]
def rest : List (String × DataW Unit) := [("math/bits.deBruijn32tab", Rows.laid_math_bits_deBruijn32tab), ("math/bits.deBruijn64tab", Rows.laid_math_bits_deBruijn64tab), ("internal/strconv.uint64pow10", Rows.laid_internal_strconv_uint64pow10), ("unicode/utf8.acceptRanges", Rows.laid_unicode_utf8_acceptRanges), ("strconv.ErrRange", Rows.laid_strconv_ErrRange), ("strconv.ErrSyntax", Rows.laid_strconv_ErrSyntax), ("clepsydra/clepsydraref.Fine", Rows.laid_clepsydra_clepsydraref_Fine), ("unicode/utf8.first", Rows.laid_unicode_utf8_first)]
def laidOne : List (String × DataW Unit) := [("errors.errorType", Rows.laid_errors_errorType)]
theorem laid_rest : (laidAll.filter fun x => x.2.handleName?.isNone) = rest := by kernel_rfl
theorem laid_one : (laidAll.filter fun x => x.2.handleName?.isSome) = laidOne := by kernel_rfl

theorem handle_of_met {W : World} (h : handlesMet Tryz.prog laidOne W) : HandleAt W := by
  obtain ⟨name, u, ty, e1, e2, e3, e4, e5⟩ := h _ (List.mem_singleton.2 rfl)
  have en : name = [101, 114, 114, 111, 114] := (Option.some.inj e1).symm
  subst en
  obtain rfl := Option.some.inj (rt.symm.trans e2)
  have hm : ty ∈ (List.range Tryz.prog.types.size).filter fun t => Tryz.prog.rowNamed t [101, 114, 114, 111, 114] := List.mem_filter.2 ⟨List.mem_range.2 e3, e4⟩
  rw [oneRow] at hm
  obtain rfl := List.mem_singleton.1 hm
  have hh : typeHandle Tryz.prog 30 = .pointer (some ⟨10, 30, none⟩) := by kernel_rfl
  rw [hh] at e5
  have hc := World.var?_cell et e5 0
  simp at hc
  exact hc

set_option maxRecDepth 100000 in
theorem fine_of_reads {W : World} (h : Lib.VarReads Tryz.prog W "clepsydra/clepsydraref.Fine" Rows.laid_clepsydra_clepsydraref_Fine) :
    W.cell? ⟨0, 0, none⟩ = some (.int .i64 0) ∧ W.cell? ⟨0, 1, none⟩ = some (.int .i64 (-1)) := by
  obtain ⟨g, t, cs, fuel, p, hg, ht, hv, hd⟩ := h
  obtain rfl := Option.some.inj (fi.symm.trans hg)
  obtain rfl := Option.some.inj (fiType.symm.trans ht)
  obtain ⟨xs, n, _, hx, hl, hxl, hf⟩ := DataW.trod_struct Tryz.underlying26 hd
  obtain ⟨l⟩ := cs
  have c2 : Tryz.prog.cellsOf 26 = 2 := by kernel_rfl
  match l, hl.trans c2, xs, hxl with
  | [c0, c1], _, [y0, y1], _ =>
    have ca : Tryz.prog.cellsOf 24 = 1 := by kernel_rfl
    have cb : Tryz.prog.cellsOf 3 = 1 := by kernel_rfl
    have h0 : DataW.trod _ Tryz.prog W 0 _ _ n 24 (([c0, c1].drop 0).take (Tryz.prog.cellsOf 24)) = some y0 := hf 0 _ rfl
    have h1 : DataW.trod _ Tryz.prog W 0 _ _ n 3 (([c0, c1].drop 1).take (Tryz.prog.cellsOf 3)) = some y1 := hf 1 _ rfl
    obtain ⟨m0, e0, d0, _⟩ := DataW.trod_int Tryz.underlying24 h0
    obtain ⟨m1, e1, d1, _⟩ := DataW.trod_int Tryz.underlying3 h1
    rw [ca] at e0
    rw [cb] at e1
    cases e0
    cases e1
    subst d0 d1
    simp [Rows.laid_clepsydra_clepsydraref_Fine] at hx
    obtain ⟨⟨rfl, rfl⟩, _⟩ := hx
    exact ⟨by simpa using World.var?_cell fi hv 0, by simpa using World.var?_cell fi hv 1⟩

theorem iface_trod {P : Program} {W : World} {fuel : Nat} {u : TypeId} {ms : Array (String × TypeId)} {cs : List Value} {s : String} {d : DataW Unit} {p : List MemPlace} (ht : P.underlying u = some (.interface ms))
    (h : DataW.trod (fun _ => ()) P W 0 (fun _ => true) false fuel u cs = some (.iface s d, p)) : ∃ u v, cs = [.iface u v] := by
  cases fuel with
  | zero => simp [DataW.trod] at h
  | succ n =>
    unfold DataW.trod at h
    rw [ht] at h
    split at h <;> simp_all
theorem iface_of_trod {W : World} {fuel : Nat} {cs : List Value} {s : String} {d : DataW Unit} {p : List MemPlace}
    (h : DataW.trod (fun _ => ()) Tryz.prog W 0 (fun _ => true) false fuel 30 cs = some (.iface s d, p)) : ∃ u v, cs = [.iface u v] := iface_trod Tryz.underlying30 h
theorem syn_of_reads {W : World} (h : Lib.VarReads Tryz.prog W "strconv.ErrSyntax" Rows.laid_strconv_ErrSyntax) : ∃ t p, W.cell? ⟨1, 0, none⟩ = some (.iface t p) := by
  obtain ⟨g, t, cs, fuel, p, hg, ht, hv, hd⟩ := h
  obtain rfl := Option.some.inj (sy.symm.trans hg)
  obtain rfl := Option.some.inj (syType.symm.trans ht)
  obtain ⟨u, v, e⟩ := iface_of_trod hd
  obtain ⟨l⟩ := cs
  cases e
  exact ⟨u, v, by simpa using World.var?_cell sy hv 0⟩
theorem rng_of_reads {W : World} (h : Lib.VarReads Tryz.prog W "strconv.ErrRange" Rows.laid_strconv_ErrRange) : ∃ t p, W.cell? ⟨2, 0, none⟩ = some (.iface t p) := by
  obtain ⟨g, t, cs, fuel, p, hg, ht, hv, hd⟩ := h
  obtain rfl := Option.some.inj (ra.symm.trans hg)
  obtain rfl := Option.some.inj (raType.symm.trans ht)
  obtain ⟨u, v, e⟩ := iface_of_trod hd
  obtain ⟨l⟩ := cs
  cases e
  exact ⟨u, v, by simpa using World.var?_cell ra hv 0⟩
set_option maxRecDepth 100000 in
theorem pow_data : (Rows.laid_internal_strconv_uint64pow10 : DataW Unit) = Lib.tabData .u64 Lib.pow10Tab := by kernel_rfl
theorem tab_of_reads {W : World} (h : Lib.VarReads Tryz.prog W "internal/strconv.uint64pow10" Rows.laid_internal_strconv_uint64pow10) : Lib.TabIs Tryz.prog W "internal/strconv.uint64pow10" .u64 Lib.pow10Tab := by
  obtain ⟨g, t, cs, fuel, p, hg, ht, hv, hd⟩ := h
  obtain rfl := Option.some.inj ((show Tryz.prog.globalNamed "internal/strconv.uint64pow10" = some 3 by kernel_rfl).symm.trans hg)
  obtain rfl := Option.some.inj ((show (Tryz.prog.globals[3]?).map (·.type) = some 108 by kernel_rfl).symm.trans ht)
  rw [pow_data] at hd
  unfold Lib.TabIs
  rw [hv, ← Lib.cells_of_tab (n := 20) (e := 83) (by kernel_rfl) (by kernel_rfl) (by kernel_rfl) (by kernel_rfl) hd]
theorem maxl_of_shaped {W : World} (h : W.ShapedOpen Tryz.prog) : ∃ m, W.cell? ⟨7, 0, none⟩ = some (.int .i64 m) :=
  Go.Proofs.cell_of_shapedOpen_int (g := 7) (t := 3) (zero := #[.int .i64 0]) h (of_decide_eq_true (by kernel_rfl)) (by kernel_rfl) rfl (by kernel_rfl) (by kernel_rfl) (by kernel_rfl)
theorem env_of {W : World} (h : laidMetH Tryz.prog laidAll W) (hsh : W.ShapedOpen Tryz.prog) : Env W := by
  obtain ⟨h1, h2⟩ := laidMetH_iff.1 h
  rw [laid_rest] at h1
  rw [laid_one] at h2
  have hf := fine_of_reads (Lib.laidMet.reads h1 (by simp [rest]))
  exact ⟨handle_of_met h2, hf.1, hf.2, maxl_of_shaped hsh, syn_of_reads (Lib.laidMet.reads h1 (by simp [rest])), rng_of_reads (Lib.laidMet.reads h1 (by simp [rest])), tab_of_reads (Lib.laidMet.reads h1 (by simp [rest]))⟩

/-- A world that meets the condition: the settled one, the variables' cells laid. -/
noncomputable def handWorld (os : Os) : World :=
  let w0 := World.holding Tryz.prog os ⟨#[], #[], []⟩
  { w0 with heap := w0.heap.modify 4 fun
      | .cells _ t frozen => .cells #[.iface 136 (.agg #[.pointer (some ⟨10, 30, none⟩)])] t frozen
      | o => o }
noncomputable def laidWorld (os : Os) : World := (handWorld os).layVars Tryz.prog rest
theorem laidWorld_os (os : Os) : (laidWorld os).os = os := World.layVars_os _ _ _
theorem laidWorld_rest (os : Os) (args : Array Value) : laidMet Tryz.prog rest ((laidWorld os).forCall (fun _ _ => 0) ⟨#[], args, []⟩).memory := by
  have e1 : (rest.filter fun x => (rest.map (·.1)).contains x.1) = rest := List.filter_eq_self.2 fun x hx => List.contains_iff_mem.2 (List.mem_map.2 ⟨x, hx, rfl⟩)
  have e2 : (rest.filter fun x => !(rest.map (·.1)).contains x.1) = [] := List.filter_eq_nil_iff.2 fun x hx => by rw [List.contains_iff_mem.2 (List.mem_map.2 ⟨x, hx, rfl⟩)]; simp
  have h : laidMet Tryz.prog rest (laidWorld os) := laidMet_layVars (w0 := handWorld os) (rest.map (·.1)) [] (by rw [e1]; rfl) (by rw [e1]; kernel_rfl) (by rw [e1]; kernel_rfl) (by rw [e2]; exact LaidIn.none)
  exact h.of_heap (by simp [World.memory, World.forCall, Input.heap])
theorem laidWorld_all (os : Os) (args : Array Value) : laidMetH Tryz.prog laidAll ((laidWorld os).forCall (fun _ _ => 0) ⟨#[], args, []⟩).memory :=
  laidMetH_of_parts (by rw [laid_rest]; exact laidWorld_rest os args) (by rw [laid_one]; kernel_rfl)

section
variable {H : Type} {enc : TypeId × Value → H}
/-- The wrap that hands on both a condition and the world's shape. -/
theorem handed_of_both {a : Assume} {C : Checked} {os : Os} {f : FuncId} {fn : Func} {s : ChangeSpec} {conds : List PathCond} {apart fresh handsOn again : Bool} {X : World → Array Value → Prop}
    (hX : ∀ (w w' : World) (args : Array Value), w.heap = w'.heap → X w args → X w' args)
    (own : ownKnob C.prog.godebug = none) (started : os.Started) (noInit : C.prog.inits.idxOf? f = none) (hfn : C.prog.funcs[f]? = some fn)
    (witness : ∃ (w : World) (tape : Tape) (i : Input), w.os = os ∧ (w.forCall tape i).Shaped C.prog ∧ i.vars = [] ∧ Input.okWide C.prog (w.forCall tape i) .any w.heap.size f i ∧
      ((s.pre enc C.prog fn conds apart (w.forCall tape i).memory i.args ∧ X (w.forCall tape i).memory i.args) ∧ sizedMet enc C.prog fn (OpenSpec.ofChange s) apart (w.forCall tape i).memory i.args) ∧ a.holds C.prog (lone (Frame.enter C.prog f i.args .normal) [] (w.forCall tape i)))
    (contract : ∀ (W : World) (base : Nat) (args : Array Value) (ds gs : List (DataW H)) (before : List MemPlace),
      (∀ (j : Nat) t v, fn.params[j]? = some t → args[j]? = some v → Value.okWide C.prog W .any base t v) →
      DataW.Whole enc C.prog fn.params.toList s.vars apart W args.toList ds gs before →
      X W args → W.ShapedOpen C.prog →
      Calls C.prog f args W fun e W' => ∃ v, e = .returned v ∧ s.post enc C.prog fn apart fresh handsOn again W args v W') :
    ReturnsInHanded a C os f .any (fun w args => (s.pre enc C.prog fn conds apart w args ∧ X w args) ∧ sizedMet enc C.prog fn (OpenSpec.ofChange s) apart w args) (s.post enc C.prog fn apart fresh handsOn again) := by
  refine returnsInHanded_of_calls own started noInit witness ?_
  intro w tape i _ hsh _ hok hpre _
  obtain ⟨_, _, _, fn', hfn', _, _, _, _, hval⟩ := hok
  have e : fn' = fn := Option.some.inj (hfn'.symm.trans hfn)
  subst e
  obtain ⟨⟨⟨ds, gs, before, hw, hc⟩, hx⟩, hz⟩ := hpre
  have hw' := DataW.Whole.of_heap (w' := w.forCall tape i) (by rfl) hw
  refine (contract (w.forCall tape i) w.heap.size i.args ds gs before hval hw' (hX _ _ _ (by rfl) hx) hsh).mono fun e W' ⟨v, he, hp⟩ => ?_
  subst he
  exact ChangeSpec.post_blind hp
end
end Go.Proofs.YtgglbjniclkkpaaGreatDoor

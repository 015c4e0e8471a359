/-
  api.Tell, plain.Place and the laws' own 'is': what an error is, and where.
-/
import Derived.Test.YtgglbjniclkkpaaDoorErrs
import Derived.Deep.QuietTactic
import Derived.BigQuiet
namespace Go.Proofs.YtgglbjniclkkpaaDoor
open Go.RowKit Go.Extern.Stop Go.Stop Go.Extern

/-- The variable that errors.As reads. -/
def HandleAt (w : World) : Prop := w.cell? ⟨1, 0, none⟩ = some (.iface 151 (.agg #[.pointer (some ⟨2, 34, none⟩)]))
theorem HandleAt.up {w W : World} (h : HandleAt w) (hb : Below w.heap.size w W) : HandleAt W := cell_up hb h
theorem HandleAt.lt {w : World} (h : HandleAt w) : 1 < w.heap.size := World.block_lt_of_cell? w _ h
/-- The error v is the Errno e, at the place p (-1: none); nil: 0. -/
def ErrAt (w : World) (v : Value) (e p : Int) : Prop :=
  (v = .nilIface ∧ e = 0 ∧ p = -1) ∨ (v = .iface 36 (.int .i64 e) ∧ p = -1 ∧ e ≠ 0) ∨ (∃ b, v = .iface 77 (.pointer (some ⟨b, 0, none⟩)) ∧ w.cell? ⟨b, 0, none⟩ = some (.int .i64 e) ∧ w.cell? ⟨b, 1, none⟩ = some (.int .i64 p) ∧ e ≠ 0)
theorem ErrAt.up {w W : World} {v : Value} {e p : Int} (h : ErrAt w v e p) (hb : Below w.heap.size w W) : ErrAt W v e p := by
  rcases h with h | h | ⟨b, h1, h2, h3, h4⟩
  · exact .inl h
  · exact .inr (.inl h)
  · exact .inr (.inr ⟨b, h1, cell_up hb h2, cell_up hb h3, h4⟩)
/-- No error. -/
theorem ErrAt.nil {w : World} {v : Value} {p : Int} (h : ErrAt w v 0 p) : v = .nilIface := by
  rcases h with h | h | ⟨b, h1, h2, h3, h4⟩
  · exact h.1
  · exact absurd rfl h.2.2
  · exact absurd rfl h4
/-- An error: what it is. -/
theorem ErrAt.some {w : World} {v : Value} {e p : Int} (h : ErrAt w v e p) (he : e ≠ 0) : ∃ t x, v = .iface t x := by
  rcases h with h | h | ⟨b, h1, h2, h3, h4⟩
  · exact absurd h.2.1 he
  · exact ⟨_, _, h.1⟩
  · exact ⟨_, _, h1⟩

theorem isAt (v : Value) (w : World) : (Instr.typeAssert (.iface 77 v) 34 77 true).run Tryd.prog w = .ok (.tuple #[v, .bool true]) w := by kernel_rfl
theorem notAt (v : Value) (w : World) : (Instr.typeAssert (.iface 36 v) 34 77 true).run Tryd.prog w = .ok (.tuple #[.pointer none, .bool false]) w := by kernel_rfl
theorem tell_nil (w : World) : Calls Tryd.prog 24 #[.nilIface] w fun r w' => r = .returned (.int .i64 0) ∧ Below w.heap.size w w' := by
  go_enter Tryd.func24, Tryd.ntmps24
  go_wp2
  go_ret
  exact ⟨rfl, Below.refl _ _⟩
set_option maxRecDepth 100000 in
set_option maxHeartbeats 1000000 in
theorem tell_errno (e : Int) (w : World) (hg : HandleAt w) : Calls Tryd.prog 24 #[.iface 36 (.int .i64 e)] w fun r w' => r = .returned (.int .i64 e) ∧ Below w.heap.size w w' := by
  have b1 := (Below.refl w.heap.size w).alloc (Nat.le_refl _) (Obj.cells #[Value.int IntKind.i64 0] 36)
  have hA := Lib.hid (as_errno e w.heap.size (.int .i64 0) (w.alloc (.cells #[.int .i64 0] 36)) (hg.up b1) (hg.up b1).lt (by simp) (by simp))
  clear b1 hg
  go_enter Tryd.func24, Tryd.ntmps24
  go_wp2_with (go_at_call 63; refine hA.out.mono ?_; rintro r w1 ⟨rfl, rfl⟩)
  go_ret
  exact ⟨rfl, (by repeat' (first | exact Below.refl _ _ | refine Below.alloc ?_ (by first | exact Nat.le_refl _ | (simp only [World.size_alloc]; omega)) _))⟩
set_option maxRecDepth 100000 in
set_option maxHeartbeats 1000000 in
theorem tell_at (e : Int) (b : Nat) (w : World) (hg : HandleAt w) (hb : w.cell? ⟨b, 0, none⟩ = some (.int .i64 e)) : Calls Tryd.prog 24 #[.iface 77 (.pointer (some ⟨b, 0, none⟩))] w fun r w' => r = .returned (.int .i64 e) ∧ Below w.heap.size w w' := by
  have b1 := (Below.refl w.heap.size w).alloc (Nat.le_refl _) (Obj.cells #[Value.int IntKind.i64 0] 36)
  have hA := Lib.hid (as_at e b w.heap.size (.int .i64 0) (w.alloc (.cells #[.int .i64 0] 36)) (hg.up b1) (hg.up b1).lt (by simp) (by simp) (cell_up b1 hb))
  clear b1 hg hb
  go_enter Tryd.func24, Tryd.ntmps24
  go_wp2_with (go_at_call 63; refine hA.out.mono ?_; rintro r w1 ⟨rfl, rfl⟩)
  go_ret
  exact ⟨rfl, (by repeat' (first | exact Below.refl _ _ | refine Below.alloc ?_ (by first | exact Nat.le_refl _ | (simp only [World.size_alloc]; omega)) _))⟩
theorem tell_any (v : Value) (e p : Int) (w : World) (hg : HandleAt w) (hv : ErrAt w v e p) : Calls Tryd.prog 24 #[v] w fun r w' => r = .returned (.int .i64 e) ∧ Below w.heap.size w w' := by
  rcases hv with ⟨rfl, rfl, _⟩ | ⟨rfl, _⟩ | ⟨b, rfl, h2, _⟩
  · exact tell_nil w
  · exact tell_errno e w hg
  · exact tell_at e b w hg h2

set_option maxRecDepth 100000 in
set_option maxHeartbeats 1000000 in
theorem place_any (v : Value) (e p : Int) (w : World) (hg : HandleAt w) (hv : ErrAt w v e p) :
    Calls Tryd.prog 38 #[v] w fun r w' => r = .returned (.tuple #[.int .i64 e, .int .i64 p]) ∧ Below w.heap.size w w' := by
  have ht := Lib.hid (tell_any v e p w hg hv)
  rcases hv with ⟨rfl, rfl, rfl⟩ | ⟨rfl, rfl, _⟩ | ⟨b, rfl, h2, h3, _⟩
  · clear hg
    go_enter Tryd.func38, Tryd.ntmps38
    go_wp2_with (go_at_call 24; refine ht.out.mono ?_; rintro r w1 ⟨rfl, hb1⟩)
    refine wp_loop_rounds 1 ?_
    rw [rounds_succ]
    go_wp2
    go_ret2
    exact ⟨rfl, hb1⟩
  · clear hg
    have f1 := As.noUnwrap
    have f2 := notAt
    go_enter Tryd.func38, Tryd.ntmps38
    go_wp2_with (go_at_call 24; refine ht.out.mono ?_; rintro r w1 ⟨rfl, hb1⟩)
    refine wp_loop_rounds 1 ?_
    rw [rounds_succ]
    go_wp2
    go_ret2
    exact ⟨rfl, hb1⟩
  · clear hg
    have f2 := isAt
    go_enter Tryd.func38, Tryd.ntmps38
    go_wp2_with (go_at_call 24; refine ht.out.mono ?_; rintro r w1 ⟨rfl, hb1⟩; have h3' := cell_up hb1 h3)
    refine wp_loop_rounds 1 ?_
    rw [rounds_succ]
    go_wp2
    go_quiet (fail)
    go_wp2
    go_ret2
    exact ⟨rfl, hb1.trans ⟨rfl, rfl, rfl, Nat.le_refl _, fun _ _ => rfl⟩⟩

set_option maxRecDepth 100000 in
set_option maxHeartbeats 1000000 in
theorem is_any (v : Value) (e p fe fp : Int) (w : World) (hg : HandleAt w) (hv : ErrAt w v e p) :
    Calls Tryd.prog 13 #[v, .agg #[.int .i64 fe, .int .i64 fp]] w fun r w' => r = .returned (.bool (e == fe && p == fp)) ∧ Below w.heap.size w w' := by
  have b1 := (Below.refl w.heap.size w).alloc (Nat.le_refl _) (Obj.cells #[Value.int IntKind.i64 fe, Value.int IntKind.i64 fp] 38)
  have ht := Lib.hid (place_any v e p (w.alloc (.cells #[.int .i64 fe, .int .i64 fp] 38)) (hg.up b1) (hv.up b1))
  have HB := Lib.hid b1
  clear b1 hg hv
  have c0 : ∀ w1, Below (w.alloc (.cells #[.int .i64 fe, .int .i64 fp] 38)).heap.size (w.alloc (.cells #[.int .i64 fe, .int .i64 fp] 38)) w1 → w1.cell? ⟨w.heap.size, 0, none⟩ = some (.int .i64 fe) := fun w1 h => cell_up h (by simp)
  have c1 : ∀ w1, Below (w.alloc (.cells #[.int .i64 fe, .int .i64 fp] 38)).heap.size (w.alloc (.cells #[.int .i64 fe, .int .i64 fp] 38)) w1 → w1.cell? ⟨w.heap.size, 1, none⟩ = some (.int .i64 fp) := fun w1 h => cell_up h (by simp)
  have C0 := Lib.hid c0
  have C1 := Lib.hid c1
  clear c0 c1
  cases h1 : e == fe
  · go_enter Tryd.func13, Tryd.ntmps13
    go_wp2_with (go_at_call 38; refine ht.out.mono ?_; rintro r w1 ⟨rfl, hb1⟩; have d0 := C0.out w1 hb1; have d1 := C1.out w1 hb1)
    go_ret
    exact ⟨by simp, below_up HB.out hb1⟩
  · go_enter Tryd.func13, Tryd.ntmps13
    go_wp2_with (go_at_call 38; refine ht.out.mono ?_; rintro r w1 ⟨rfl, hb1⟩; have d0 := C0.out w1 hb1; have d1 := C1.out w1 hb1)
    go_ret
    exact ⟨by simp, below_up HB.out hb1⟩
end Go.Proofs.YtgglbjniclkkpaaDoor

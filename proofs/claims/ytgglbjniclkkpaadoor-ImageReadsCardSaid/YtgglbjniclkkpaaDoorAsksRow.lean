/-
  What steps ask, in a new row of ints.
-/
import Derived.Test.YtgglbjniclkkpaaDoorAsks
namespace Go.Proofs.YtgglbjniclkkpaaDoor
open Go.RowKit
set_option linter.unusedVariables false

/-- It hands back a slice of n numbers, xs, in a row of ints; all that lay lies as it lay. -/
def GivesRow (w : World) (n : Nat) (xs : List Int) (r : Ending) (w' : World) : Prop := ∃ A c, r = .returned (.slice A n c) ∧ n ≤ c ∧ IntsAt w' A n xs ∧ (0 < n → ∃ b C, A = some ⟨b, 0, none⟩ ∧ w'.heap[b]? = some (.cells C 3 (0, 0))) ∧ Below w.heap.size w w'
theorem row_new (w : World) (o : Obj) (C : Array Value) : ((w.alloc o).alloc (.cells C 3)).heap[w.heap.size + 1]? = some (.cells C 3 (0, 0)) := by
  have h := heap_alloc_new (w.alloc o) (.cells C 3)
  simpa using h

set_option maxRecDepth 100000 in
set_option maxHeartbeats 1000000 in
theorem asks_0R (c d a b e : Int) (w : World) (ha : ∀ W, Calls Tryd.prog 36 #[.int .i64 c] W fun r W' => r = .returned (.int .i64 0) ∧ W = W') :
    Calls Tryd.prog 11 #[.agg #[.int .i64 c, .int .i64 d, .int .i64 a, .int .i64 b, .int .i64 e]] w (GivesRow w 0 ([a, b, e].take 0)) := by
  have HA := Lib.hid ha
  clear ha
  have s1 := (Below.refl w.heap.size w).alloc (Nat.le_refl _) (Obj.cells #[Value.int IntKind.i64 c, Value.int IntKind.i64 d, Value.int IntKind.i64 a, Value.int IntKind.i64 b, Value.int IntKind.i64 e] 31)
  go_enter Tryd.func11, Tryd.ntmps11
  go_wp2
  go_region_held3 (fun w' => w'.cell? ⟨w.heap.size, 0, none⟩ = some (.int .i64 c) ∧ w'.cell? ⟨w.heap.size, 1, none⟩ = some (.int .i64 d) ∧ w'.cell? ⟨w.heap.size, 2, none⟩ = some (.int .i64 a) ∧ w'.cell? ⟨w.heap.size, 3, none⟩ = some (.int .i64 b) ∧ w'.cell? ⟨w.heap.size, 4, none⟩ = some (.int .i64 e) ∧ Below w.heap.size w w')
    ((first | exact ⟨by simp, by simp, by simp, by simp, by simp, s1.drew⟩ | assumption | exact keep6 (by assumption) ((Below.refl _ _).alloc (Nat.le_refl _) _)))
    (first | (go_at_call 36; refine (HA.out _).mono ?_; rintro r w' ⟨rfl, rfl⟩))
  all_goals
    go_wp2
    go_ret
    exact ⟨_, 3, rfl, by omega, ints3 (by simp) (by simp) (by simp) (by omega), (fun h => by first | exact absurd h (by omega) | exact ⟨_, _, rfl, row_new _ _ _⟩), (s1.alloc (by simp) _).drew⟩
set_option maxRecDepth 100000 in
set_option maxHeartbeats 1000000 in
theorem asks_1R (c d a b e : Int) (w : World) (ha : ∀ W, Calls Tryd.prog 36 #[.int .i64 c] W fun r W' => r = .returned (.int .i64 1) ∧ W = W') :
    Calls Tryd.prog 11 #[.agg #[.int .i64 c, .int .i64 d, .int .i64 a, .int .i64 b, .int .i64 e]] w (GivesRow w 1 ([a, b, e].take 1)) := by
  have HA := Lib.hid ha
  clear ha
  have s1 := (Below.refl w.heap.size w).alloc (Nat.le_refl _) (Obj.cells #[Value.int IntKind.i64 c, Value.int IntKind.i64 d, Value.int IntKind.i64 a, Value.int IntKind.i64 b, Value.int IntKind.i64 e] 31)
  go_enter Tryd.func11, Tryd.ntmps11
  go_wp2
  go_region_held3 (fun w' => w'.cell? ⟨w.heap.size, 0, none⟩ = some (.int .i64 c) ∧ w'.cell? ⟨w.heap.size, 1, none⟩ = some (.int .i64 d) ∧ w'.cell? ⟨w.heap.size, 2, none⟩ = some (.int .i64 a) ∧ w'.cell? ⟨w.heap.size, 3, none⟩ = some (.int .i64 b) ∧ w'.cell? ⟨w.heap.size, 4, none⟩ = some (.int .i64 e) ∧ Below w.heap.size w w')
    ((first | exact ⟨by simp, by simp, by simp, by simp, by simp, s1.drew⟩ | assumption | exact keep6 (by assumption) ((Below.refl _ _).alloc (Nat.le_refl _) _)))
    (first | (go_at_call 36; refine (HA.out _).mono ?_; rintro r w' ⟨rfl, rfl⟩))
  all_goals
    go_wp2
    go_ret
    exact ⟨_, 3, rfl, by omega, ints3 (by simp) (by simp) (by simp) (by omega), (fun h => by first | exact absurd h (by omega) | exact ⟨_, _, rfl, row_new _ _ _⟩), (s1.alloc (by simp) _).drew⟩
set_option maxRecDepth 100000 in
set_option maxHeartbeats 1000000 in
theorem asks_2R (c d a b e : Int) (w : World) (ha : ∀ W, Calls Tryd.prog 36 #[.int .i64 c] W fun r W' => r = .returned (.int .i64 2) ∧ W = W') :
    Calls Tryd.prog 11 #[.agg #[.int .i64 c, .int .i64 d, .int .i64 a, .int .i64 b, .int .i64 e]] w (GivesRow w 2 ([a, b, e].take 2)) := by
  have HA := Lib.hid ha
  clear ha
  have s1 := (Below.refl w.heap.size w).alloc (Nat.le_refl _) (Obj.cells #[Value.int IntKind.i64 c, Value.int IntKind.i64 d, Value.int IntKind.i64 a, Value.int IntKind.i64 b, Value.int IntKind.i64 e] 31)
  go_enter Tryd.func11, Tryd.ntmps11
  go_wp2
  go_region_held3 (fun w' => w'.cell? ⟨w.heap.size, 0, none⟩ = some (.int .i64 c) ∧ w'.cell? ⟨w.heap.size, 1, none⟩ = some (.int .i64 d) ∧ w'.cell? ⟨w.heap.size, 2, none⟩ = some (.int .i64 a) ∧ w'.cell? ⟨w.heap.size, 3, none⟩ = some (.int .i64 b) ∧ w'.cell? ⟨w.heap.size, 4, none⟩ = some (.int .i64 e) ∧ Below w.heap.size w w')
    ((first | exact ⟨by simp, by simp, by simp, by simp, by simp, s1.drew⟩ | assumption | exact keep6 (by assumption) ((Below.refl _ _).alloc (Nat.le_refl _) _)))
    (first | (go_at_call 36; refine (HA.out _).mono ?_; rintro r w' ⟨rfl, rfl⟩))
  all_goals
    go_wp2
    go_ret
    exact ⟨_, 3, rfl, by omega, ints3 (by simp) (by simp) (by simp) (by omega), (fun h => by first | exact absurd h (by omega) | exact ⟨_, _, rfl, row_new _ _ _⟩), (s1.alloc (by simp) _).drew⟩
set_option maxRecDepth 100000 in
set_option maxHeartbeats 1000000 in
theorem asks_3R (c d a b e : Int) (w : World) (ha : ∀ W, Calls Tryd.prog 36 #[.int .i64 c] W fun r W' => r = .returned (.int .i64 3) ∧ W = W') :
    Calls Tryd.prog 11 #[.agg #[.int .i64 c, .int .i64 d, .int .i64 a, .int .i64 b, .int .i64 e]] w (GivesRow w 3 ([a, b, e].take 3)) := by
  have HA := Lib.hid ha
  clear ha
  have s1 := (Below.refl w.heap.size w).alloc (Nat.le_refl _) (Obj.cells #[Value.int IntKind.i64 c, Value.int IntKind.i64 d, Value.int IntKind.i64 a, Value.int IntKind.i64 b, Value.int IntKind.i64 e] 31)
  go_enter Tryd.func11, Tryd.ntmps11
  go_wp2
  go_region_held3 (fun w' => w'.cell? ⟨w.heap.size, 0, none⟩ = some (.int .i64 c) ∧ w'.cell? ⟨w.heap.size, 1, none⟩ = some (.int .i64 d) ∧ w'.cell? ⟨w.heap.size, 2, none⟩ = some (.int .i64 a) ∧ w'.cell? ⟨w.heap.size, 3, none⟩ = some (.int .i64 b) ∧ w'.cell? ⟨w.heap.size, 4, none⟩ = some (.int .i64 e) ∧ Below w.heap.size w w')
    ((first | exact ⟨by simp, by simp, by simp, by simp, by simp, s1.drew⟩ | assumption | exact keep6 (by assumption) ((Below.refl _ _).alloc (Nat.le_refl _) _)))
    (first | (go_at_call 36; refine (HA.out _).mono ?_; rintro r w' ⟨rfl, rfl⟩))
  all_goals
    go_wp2
    go_ret
    exact ⟨_, 3, rfl, by omega, ints3 (by simp) (by simp) (by simp) (by omega), (fun h => by first | exact absurd h (by omega) | exact ⟨_, _, rfl, row_new _ _ _⟩), (s1.alloc (by simp) _).drew⟩
theorem asks_anyR (s : Stp) (w : World) : Calls Tryd.prog 11 #[.agg #[.int .i64 s.c, .int .i64 s.d, .int .i64 s.a, .int .i64 s.b, .int .i64 s.e]] w (GivesRow w (arityV s.c) (asksV s)) := by
  have h := arity_le s.c
  have ha := arity_any s.c
  unfold asksV
  generalize hk : arityV s.c = k at *
  rcases (show k = 0 ∨ k = 1 ∨ k = 2 ∨ k = 3 by omega) with rfl | rfl | rfl | rfl
  · exact asks_0R _ _ _ _ _ w ha
  · exact asks_1R _ _ _ _ _ w ha
  · exact asks_2R _ _ _ _ _ w ha
  · exact asks_3R _ _ _ _ _ w ha

/-! ### the reference's -/
set_option maxRecDepth 100000 in
set_option maxHeartbeats 1000000 in
theorem refAsks_1R (c d a b e : Int) (w : World) (hc : c = 4 ∨ c = 5 ∨ c = 2) :
    Calls Tryd.prog 12 #[.agg #[.int .i64 c, .int .i64 d, .int .i64 a, .int .i64 b, .int .i64 e]] w (GivesRow w 1 [a]) := by
  have s1 := (Below.refl w.heap.size w).alloc (Nat.le_refl _) (Obj.cells #[Value.int IntKind.i64 c, Value.int IntKind.i64 d, Value.int IntKind.i64 a, Value.int IntKind.i64 b, Value.int IntKind.i64 e] 31)
  rcases hc with rfl | rfl | rfl
  all_goals
    go_enter Tryd.func12, Tryd.ntmps12
    go_wp2_with (go_at_call 37; refine (in_any _ _ _ _).mono ?_; rintro r w' ⟨rfl, rfl⟩)
    go_ret
    exact ⟨_, 1, rfl, by omega, ints1 (by simp), (fun h => by first | exact absurd h (by omega) | exact ⟨_, _, rfl, row_new _ _ _⟩), (s1.alloc (by simp) _)⟩
set_option maxRecDepth 100000 in
set_option maxHeartbeats 1000000 in
theorem refAsks_2R (c d a b e : Int) (w : World) (h6 : 6 ≤ c) (h16 : c ≤ 16) :
    Calls Tryd.prog 12 #[.agg #[.int .i64 c, .int .i64 d, .int .i64 a, .int .i64 b, .int .i64 e]] w (GivesRow w 2 [a, b]) := by
  have s1 := (Below.refl w.heap.size w).alloc (Nat.le_refl _) (Obj.cells #[Value.int IntKind.i64 c, Value.int IntKind.i64 d, Value.int IntKind.i64 a, Value.int IntKind.i64 b, Value.int IntKind.i64 e] 31)
  have d1 : (decide ((6 : Int) ≤ c) && decide (c ≤ (16 : Int))) = true := by simp; omega
  have n4 : (c == 4) = false := by simp; omega
  have n5 : (c == 5) = false := by simp; omega
  have n2 : (c == 2) = false := by simp; omega
  go_enter Tryd.func12, Tryd.ntmps12
  go_wp2_with (go_at_call 37; refine (in_any _ _ _ _).mono ?_; rintro r w' ⟨rfl, rfl⟩)
  go_ret
  exact ⟨_, 2, rfl, by omega, ints2 (by simp) (by simp), (fun h => by first | exact absurd h (by omega) | exact ⟨_, _, rfl, row_new _ _ _⟩), (s1.alloc (by simp) _)⟩
set_option maxRecDepth 100000 in
set_option maxHeartbeats 1000000 in
theorem refAsks_3R (c d a b e : Int) (w : World) (hc : c = 17) :
    Calls Tryd.prog 12 #[.agg #[.int .i64 c, .int .i64 d, .int .i64 a, .int .i64 b, .int .i64 e]] w (GivesRow w 3 [a, b, e]) := by
  have s1 := (Below.refl w.heap.size w).alloc (Nat.le_refl _) (Obj.cells #[Value.int IntKind.i64 c, Value.int IntKind.i64 d, Value.int IntKind.i64 a, Value.int IntKind.i64 b, Value.int IntKind.i64 e] 31)
  subst hc
  go_enter Tryd.func12, Tryd.ntmps12
  go_wp2_with (go_at_call 37; refine (in_any _ _ _ _).mono ?_; rintro r w' ⟨rfl, rfl⟩)
  go_ret
  exact ⟨_, 3, rfl, by omega, ints3 (k := 3) (by simp) (by simp) (by simp) (by omega), (fun h => by first | exact absurd h (by omega) | exact ⟨_, _, rfl, row_new _ _ _⟩), (s1.alloc (by simp) _)⟩
set_option maxRecDepth 100000 in
set_option maxHeartbeats 1000000 in
theorem refAsks_0R (c d a b e : Int) (w : World) (n4 : (c == 4) = false) (n5 : (c == 5) = false) (n2 : (c == 2) = false) (n17 : (c == 17) = false) (d1 : (decide ((6 : Int) ≤ c) && decide (c ≤ (16 : Int))) = false) :
    Calls Tryd.prog 12 #[.agg #[.int .i64 c, .int .i64 d, .int .i64 a, .int .i64 b, .int .i64 e]] w (GivesRow w 0 []) := by
  have s1 := (Below.refl w.heap.size w).alloc (Nat.le_refl _) (Obj.cells #[Value.int IntKind.i64 c, Value.int IntKind.i64 d, Value.int IntKind.i64 a, Value.int IntKind.i64 b, Value.int IntKind.i64 e] 31)
  go_enter Tryd.func12, Tryd.ntmps12
  go_wp2_with (go_at_call 37; refine (in_any _ _ _ _).mono ?_; rintro r w' ⟨rfl, rfl⟩)
  go_ret
  exact ⟨_, 0, rfl, by omega, IntsAt.nil _ _, (fun h => by first | exact absurd h (by omega) | exact ⟨_, _, rfl, row_new _ _ _⟩), s1⟩
theorem refAsks_anyR (s : Stp) (w : World) : Calls Tryd.prog 12 #[.agg #[.int .i64 s.c, .int .i64 s.d, .int .i64 s.a, .int .i64 s.b, .int .i64 s.e]] w (GivesRow w (arityV s.c) (asksV s)) := by
  unfold asksV
  by_cases h1 : s.c = 4 ∨ s.c = 5 ∨ s.c = 2
  · rw [show arityV s.c = 1 by unfold arityV; rw [if_pos h1]]
    exact refAsks_1R _ _ _ _ _ w h1
  by_cases h2 : 6 ≤ s.c ∧ s.c ≤ 16
  · rw [show arityV s.c = 2 by unfold arityV; rw [if_neg h1, if_pos h2]]
    exact refAsks_2R _ _ _ _ _ w h2.1 h2.2
  by_cases h3 : s.c = 17
  · rw [show arityV s.c = 3 by unfold arityV; rw [if_neg h1, if_neg h2, if_pos h3]]
    exact refAsks_3R _ _ _ _ _ w h3
  · rw [show arityV s.c = 0 by unfold arityV; rw [if_neg h1, if_neg h2, if_neg h3]]
    exact refAsks_0R _ _ _ _ _ w (by simp; omega) (by simp; omega) (by simp; omega) (by simp; omega) (by simp; omega)
end Go.Proofs.YtgglbjniclkkpaaDoor

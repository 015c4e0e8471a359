/-
  arity, Asks, the reference's Asks and in.
-/
import Derived.Test.YtgglbjniclkkpaaDoorProg
import Derived.Test.YtgglbjniclkkpaaDoorNetPlain
import Derived.WalkKit
import Derived.WalkLawsBesides
import Derived.WalkSpells
import Derived.Deep.RegionHeld3
namespace Go.Proofs.YtgglbjniclkkpaaDoor
open Go.RowKit

theorem arity_any (c : Int) (w : World) : Calls Tryd.prog 36 #[.int .i64 c] w fun e w' => e = .returned (.int .i64 (arityV c)) ∧ w = w' := by
  by_cases h4 : c = 4
  · subst h4
    go_enter Tryd.func36, Tryd.ntmps36
    go_wp2
    go_ret
    exact ⟨rfl, rfl⟩
  by_cases h5 : c = 5
  · subst h5
    go_enter Tryd.func36, Tryd.ntmps36
    go_wp2
    go_ret
    exact ⟨rfl, rfl⟩
  by_cases h2 : c = 2
  · subst h2
    go_enter Tryd.func36, Tryd.ntmps36
    go_wp2
    go_ret
    exact ⟨rfl, rfl⟩
  have n4 : (c == 4) = false := by simpa using h4
  have n5 : (c == 5) = false := by simpa using h5
  have n2 : (c == 2) = false := by simpa using h2
  by_cases h6 : 6 ≤ c
  · by_cases h16 : c ≤ 16
    · rw [show arityV c = 2 by unfold arityV; rw [if_neg (by omega), if_pos ⟨h6, h16⟩]]
      clear h4 h5 h2
      go_enter Tryd.func36, Tryd.ntmps36
      go_wp2
      go_ret
      exact ⟨rfl, rfl⟩
    · by_cases h17 : c = 17
      · subst h17
        clear h6 h16 n4 n5 n2 h4 h5 h2
        go_enter Tryd.func36, Tryd.ntmps36
        go_wp2
        go_ret
        exact ⟨rfl, rfl⟩
      · rw [show arityV c = 0 by unfold arityV; rw [if_neg (by omega), if_neg (by omega), if_neg (by omega)]]
        have n17 : (c == 17) = false := by simpa using h17
        have h16' : 17 ≤ c := by omega
        have d1 : decide ((6 : Int) ≤ c) = true := by simpa using h6
        have d2 : decide (c ≤ (16 : Int)) = false := by simpa using h16
        clear h4 h5 h2 h17 h16
        go_enter Tryd.func36, Tryd.ntmps36
        go_wp2
        go_ret
        exact ⟨rfl, rfl⟩
  · rw [show arityV c = 0 by unfold arityV; rw [if_neg (by omega), if_neg (by omega), if_neg (by omega)]]
    have n17 : (c == 17) = false := by simp; omega
    have d1 : decide ((6 : Int) ≤ c) = false := by simpa using h6
    have h6' : c ≤ 5 := by omega
    clear h4 h5 h2 h6
    go_enter Tryd.func36, Tryd.ntmps36
    go_wp2
    go_ret
    exact ⟨rfl, rfl⟩

theorem in_any (n lo hi : Int) (w : World) : Calls Tryd.prog 37 #[.int .i64 n, .int .i64 lo, .int .i64 hi] w fun e w' => e = .returned (.bool (decide (lo ≤ n) && decide (n ≤ hi))) ∧ w = w' := by
  by_cases h : lo ≤ n
  · have d : decide (lo ≤ n) = true := by simpa using h
    go_enter Tryd.func37, Tryd.ntmps37
    go_wp2
    go_ret
    exact ⟨by simp [h], rfl⟩
  · have d : decide (lo ≤ n) = false := by simpa using h
    have h' : n < lo := by omega
    clear h
    go_enter Tryd.func37, Tryd.ntmps37
    go_wp2
    go_ret
    exact ⟨by simp; intro _; omega, rfl⟩

/-- It hands back a slice of n numbers, xs; all that lay lies as it lay. -/
def GivesInts (w : World) (n : Nat) (xs : List Int) (r : Ending) (w' : World) : Prop := ∃ A c, r = .returned (.slice A n c) ∧ n ≤ c ∧ IntsAt w' A n xs ∧ Below w.heap.size w w'

theorem keep6 {w W1 W2 : World} {g : Nat} {v0 v1 v2 v3 v4 : Value}
    (h : W1.cell? ⟨g, 0, none⟩ = some v0 ∧ W1.cell? ⟨g, 1, none⟩ = some v1 ∧ W1.cell? ⟨g, 2, none⟩ = some v2 ∧ W1.cell? ⟨g, 3, none⟩ = some v3 ∧ W1.cell? ⟨g, 4, none⟩ = some v4 ∧ Below w.heap.size w W1)
    (hb : Below W1.heap.size W1 W2) : W2.cell? ⟨g, 0, none⟩ = some v0 ∧ W2.cell? ⟨g, 1, none⟩ = some v1 ∧ W2.cell? ⟨g, 2, none⟩ = some v2 ∧ W2.cell? ⟨g, 3, none⟩ = some v3 ∧ W2.cell? ⟨g, 4, none⟩ = some v4 ∧ Below w.heap.size w W2 :=
  ⟨cell_up hb h.1, cell_up hb h.2.1, cell_up hb h.2.2.1, cell_up hb h.2.2.2.1, cell_up hb h.2.2.2.2.1, below_up h.2.2.2.2.2 hb⟩

theorem ints3 {W : World} {g : Nat} {a b e : Int} (h0 : W.cell? ⟨g, 0, none⟩ = some (.int .i64 a)) (h1 : W.cell? ⟨g, 1, none⟩ = some (.int .i64 b)) (h2 : W.cell? ⟨g, 2, none⟩ = some (.int .i64 e)) {k : Nat} (hk : k ≤ 3) :
    IntsAt W (some ⟨g, 0, none⟩) k ([a, b, e].take k) := by
  refine ⟨by simp; omega, fun _ => ⟨g, 0, rfl, fun j hj => ?_⟩⟩
  rcases (show j = 0 ∨ j = 1 ∨ j = 2 by omega) with rfl | rfl | rfl
  · simp [List.getD_eq_getElem?_getD, hj, h0]
  · simp [List.getD_eq_getElem?_getD, hj, h1]
  · simp [List.getD_eq_getElem?_getD, hj, h2]
theorem ints2 {W : World} {g : Nat} {a b : Int} (h0 : W.cell? ⟨g, 0, none⟩ = some (.int .i64 a)) (h1 : W.cell? ⟨g, 1, none⟩ = some (.int .i64 b)) : IntsAt W (some ⟨g, 0, none⟩) 2 [a, b] := by
  refine ⟨rfl, fun _ => ⟨g, 0, rfl, fun j hj => ?_⟩⟩
  rcases (show j = 0 ∨ j = 1 by omega) with rfl | rfl
  · simp [h0]
  · simp [h1]
theorem ints1 {W : World} {g : Nat} {a : Int} (h0 : W.cell? ⟨g, 0, none⟩ = some (.int .i64 a)) : IntsAt W (some ⟨g, 0, none⟩) 1 [a] := by
  refine ⟨rfl, fun _ => ⟨g, 0, rfl, fun j hj => ?_⟩⟩
  obtain rfl : j = 0 := by omega
  simp [h0]

set_option maxRecDepth 100000 in
set_option maxHeartbeats 1000000 in
theorem asks_0 (c d a b e : Int) (w : World) (ha : ∀ W, Calls Tryd.prog 36 #[.int .i64 c] W fun r W' => r = .returned (.int .i64 0) ∧ W = W') :
    Calls Tryd.prog 11 #[.agg #[.int .i64 c, .int .i64 d, .int .i64 a, .int .i64 b, .int .i64 e]] w (GivesInts w 0 ([a, b, e].take 0)) := by
  have HA := Lib.hid ha
  clear ha
  have s1 := (Below.refl w.heap.size w).alloc (Nat.le_refl _) (Obj.cells #[Value.int IntKind.i64 c, Value.int IntKind.i64 d, Value.int IntKind.i64 a, Value.int IntKind.i64 b, Value.int IntKind.i64 e] 31)
  go_enter Tryd.func11, Tryd.ntmps11
  go_wp2
  go_region_held3 (fun w' => w'.cell? ⟨w.heap.size, 0, none⟩ = some (.int .i64 c) ∧ w'.cell? ⟨w.heap.size, 1, none⟩ = some (.int .i64 d) ∧ w'.cell? ⟨w.heap.size, 2, none⟩ = some (.int .i64 a) ∧ w'.cell? ⟨w.heap.size, 3, none⟩ = some (.int .i64 b) ∧ w'.cell? ⟨w.heap.size, 4, none⟩ = some (.int .i64 e) ∧ Below w.heap.size w w')
    ((first | exact ⟨by simp, by simp, by simp, by simp, by simp, s1.drew⟩ | assumption | exact keep6 (by assumption) ((Below.refl _ _).alloc (Nat.le_refl _) _)))
    (first | (go_at_call 36; refine (HA.out _).mono ?_; rintro r w' ⟨rfl, rfl⟩))
  all_goals
    go_wp2
    go_ret
    exact ⟨_, 3, rfl, by omega, ints3 (by simp) (by simp) (by simp) (by omega), (s1.alloc (by simp) _).drew⟩
set_option maxRecDepth 100000 in
set_option maxHeartbeats 1000000 in
theorem asks_1 (c d a b e : Int) (w : World) (ha : ∀ W, Calls Tryd.prog 36 #[.int .i64 c] W fun r W' => r = .returned (.int .i64 1) ∧ W = W') :
    Calls Tryd.prog 11 #[.agg #[.int .i64 c, .int .i64 d, .int .i64 a, .int .i64 b, .int .i64 e]] w (GivesInts w 1 ([a, b, e].take 1)) := by
  have HA := Lib.hid ha
  clear ha
  have s1 := (Below.refl w.heap.size w).alloc (Nat.le_refl _) (Obj.cells #[Value.int IntKind.i64 c, Value.int IntKind.i64 d, Value.int IntKind.i64 a, Value.int IntKind.i64 b, Value.int IntKind.i64 e] 31)
  go_enter Tryd.func11, Tryd.ntmps11
  go_wp2
  go_region_held3 (fun w' => w'.cell? ⟨w.heap.size, 0, none⟩ = some (.int .i64 c) ∧ w'.cell? ⟨w.heap.size, 1, none⟩ = some (.int .i64 d) ∧ w'.cell? ⟨w.heap.size, 2, none⟩ = some (.int .i64 a) ∧ w'.cell? ⟨w.heap.size, 3, none⟩ = some (.int .i64 b) ∧ w'.cell? ⟨w.heap.size, 4, none⟩ = some (.int .i64 e) ∧ Below w.heap.size w w')
    ((first | exact ⟨by simp, by simp, by simp, by simp, by simp, s1.drew⟩ | assumption | exact keep6 (by assumption) ((Below.refl _ _).alloc (Nat.le_refl _) _)))
    (first | (go_at_call 36; refine (HA.out _).mono ?_; rintro r w' ⟨rfl, rfl⟩))
  all_goals
    go_wp2
    go_ret
    exact ⟨_, 3, rfl, by omega, ints3 (by simp) (by simp) (by simp) (by omega), (s1.alloc (by simp) _).drew⟩
set_option maxRecDepth 100000 in
set_option maxHeartbeats 1000000 in
theorem asks_2 (c d a b e : Int) (w : World) (ha : ∀ W, Calls Tryd.prog 36 #[.int .i64 c] W fun r W' => r = .returned (.int .i64 2) ∧ W = W') :
    Calls Tryd.prog 11 #[.agg #[.int .i64 c, .int .i64 d, .int .i64 a, .int .i64 b, .int .i64 e]] w (GivesInts w 2 ([a, b, e].take 2)) := by
  have HA := Lib.hid ha
  clear ha
  have s1 := (Below.refl w.heap.size w).alloc (Nat.le_refl _) (Obj.cells #[Value.int IntKind.i64 c, Value.int IntKind.i64 d, Value.int IntKind.i64 a, Value.int IntKind.i64 b, Value.int IntKind.i64 e] 31)
  go_enter Tryd.func11, Tryd.ntmps11
  go_wp2
  go_region_held3 (fun w' => w'.cell? ⟨w.heap.size, 0, none⟩ = some (.int .i64 c) ∧ w'.cell? ⟨w.heap.size, 1, none⟩ = some (.int .i64 d) ∧ w'.cell? ⟨w.heap.size, 2, none⟩ = some (.int .i64 a) ∧ w'.cell? ⟨w.heap.size, 3, none⟩ = some (.int .i64 b) ∧ w'.cell? ⟨w.heap.size, 4, none⟩ = some (.int .i64 e) ∧ Below w.heap.size w w')
    ((first | exact ⟨by simp, by simp, by simp, by simp, by simp, s1.drew⟩ | assumption | exact keep6 (by assumption) ((Below.refl _ _).alloc (Nat.le_refl _) _)))
    (first | (go_at_call 36; refine (HA.out _).mono ?_; rintro r w' ⟨rfl, rfl⟩))
  all_goals
    go_wp2
    go_ret
    exact ⟨_, 3, rfl, by omega, ints3 (by simp) (by simp) (by simp) (by omega), (s1.alloc (by simp) _).drew⟩
set_option maxRecDepth 100000 in
set_option maxHeartbeats 1000000 in
theorem asks_3 (c d a b e : Int) (w : World) (ha : ∀ W, Calls Tryd.prog 36 #[.int .i64 c] W fun r W' => r = .returned (.int .i64 3) ∧ W = W') :
    Calls Tryd.prog 11 #[.agg #[.int .i64 c, .int .i64 d, .int .i64 a, .int .i64 b, .int .i64 e]] w (GivesInts w 3 ([a, b, e].take 3)) := by
  have HA := Lib.hid ha
  clear ha
  have s1 := (Below.refl w.heap.size w).alloc (Nat.le_refl _) (Obj.cells #[Value.int IntKind.i64 c, Value.int IntKind.i64 d, Value.int IntKind.i64 a, Value.int IntKind.i64 b, Value.int IntKind.i64 e] 31)
  go_enter Tryd.func11, Tryd.ntmps11
  go_wp2
  go_region_held3 (fun w' => w'.cell? ⟨w.heap.size, 0, none⟩ = some (.int .i64 c) ∧ w'.cell? ⟨w.heap.size, 1, none⟩ = some (.int .i64 d) ∧ w'.cell? ⟨w.heap.size, 2, none⟩ = some (.int .i64 a) ∧ w'.cell? ⟨w.heap.size, 3, none⟩ = some (.int .i64 b) ∧ w'.cell? ⟨w.heap.size, 4, none⟩ = some (.int .i64 e) ∧ Below w.heap.size w w')
    ((first | exact ⟨by simp, by simp, by simp, by simp, by simp, s1.drew⟩ | assumption | exact keep6 (by assumption) ((Below.refl _ _).alloc (Nat.le_refl _) _)))
    (first | (go_at_call 36; refine (HA.out _).mono ?_; rintro r w' ⟨rfl, rfl⟩))
  all_goals
    go_wp2
    go_ret
    exact ⟨_, 3, rfl, by omega, ints3 (by simp) (by simp) (by simp) (by omega), (s1.alloc (by simp) _).drew⟩
theorem asks_any (s : Stp) (w : World) : Calls Tryd.prog 11 #[.agg #[.int .i64 s.c, .int .i64 s.d, .int .i64 s.a, .int .i64 s.b, .int .i64 s.e]] w (GivesInts w (arityV s.c) (asksV s)) := by
  have h := arity_le s.c
  have ha := arity_any s.c
  unfold asksV
  generalize hk : arityV s.c = k at *
  rcases (show k = 0 ∨ k = 1 ∨ k = 2 ∨ k = 3 by omega) with rfl | rfl | rfl | rfl
  · exact asks_0 _ _ _ _ _ w ha
  · exact asks_1 _ _ _ _ _ w ha
  · exact asks_2 _ _ _ _ _ w ha
  · exact asks_3 _ _ _ _ _ w ha

/-! ### the reference's -/
set_option maxRecDepth 100000 in
set_option maxHeartbeats 1000000 in
theorem refAsks_1 (c d a b e : Int) (w : World) (hc : c = 4 ∨ c = 5 ∨ c = 2) :
    Calls Tryd.prog 12 #[.agg #[.int .i64 c, .int .i64 d, .int .i64 a, .int .i64 b, .int .i64 e]] w (GivesInts w 1 [a]) := by
  have s1 := (Below.refl w.heap.size w).alloc (Nat.le_refl _) (Obj.cells #[Value.int IntKind.i64 c, Value.int IntKind.i64 d, Value.int IntKind.i64 a, Value.int IntKind.i64 b, Value.int IntKind.i64 e] 31)
  rcases hc with rfl | rfl | rfl
  all_goals
    go_enter Tryd.func12, Tryd.ntmps12
    go_wp2_with (go_at_call 37; refine (in_any _ _ _ _).mono ?_; rintro r w' ⟨rfl, rfl⟩)
    go_ret
    exact ⟨_, 1, rfl, by omega, ints1 (by simp), (s1.alloc (by simp) _)⟩
set_option maxRecDepth 100000 in
set_option maxHeartbeats 1000000 in
theorem refAsks_2 (c d a b e : Int) (w : World) (h6 : 6 ≤ c) (h16 : c ≤ 16) :
    Calls Tryd.prog 12 #[.agg #[.int .i64 c, .int .i64 d, .int .i64 a, .int .i64 b, .int .i64 e]] w (GivesInts w 2 [a, b]) := by
  have s1 := (Below.refl w.heap.size w).alloc (Nat.le_refl _) (Obj.cells #[Value.int IntKind.i64 c, Value.int IntKind.i64 d, Value.int IntKind.i64 a, Value.int IntKind.i64 b, Value.int IntKind.i64 e] 31)
  have d1 : (decide ((6 : Int) ≤ c) && decide (c ≤ (16 : Int))) = true := by simp; omega
  have n4 : (c == 4) = false := by simp; omega
  have n5 : (c == 5) = false := by simp; omega
  have n2 : (c == 2) = false := by simp; omega
  go_enter Tryd.func12, Tryd.ntmps12
  go_wp2_with (go_at_call 37; refine (in_any _ _ _ _).mono ?_; rintro r w' ⟨rfl, rfl⟩)
  go_ret
  exact ⟨_, 2, rfl, by omega, ints2 (by simp) (by simp), (s1.alloc (by simp) _)⟩
set_option maxRecDepth 100000 in
set_option maxHeartbeats 1000000 in
theorem refAsks_3 (c d a b e : Int) (w : World) (hc : c = 17) :
    Calls Tryd.prog 12 #[.agg #[.int .i64 c, .int .i64 d, .int .i64 a, .int .i64 b, .int .i64 e]] w (GivesInts w 3 [a, b, e]) := by
  have s1 := (Below.refl w.heap.size w).alloc (Nat.le_refl _) (Obj.cells #[Value.int IntKind.i64 c, Value.int IntKind.i64 d, Value.int IntKind.i64 a, Value.int IntKind.i64 b, Value.int IntKind.i64 e] 31)
  subst hc
  go_enter Tryd.func12, Tryd.ntmps12
  go_wp2_with (go_at_call 37; refine (in_any _ _ _ _).mono ?_; rintro r w' ⟨rfl, rfl⟩)
  go_ret
  exact ⟨_, 3, rfl, by omega, ints3 (k := 3) (by simp) (by simp) (by simp) (by omega), (s1.alloc (by simp) _)⟩
set_option maxRecDepth 100000 in
set_option maxHeartbeats 1000000 in
theorem refAsks_0 (c d a b e : Int) (w : World) (n4 : (c == 4) = false) (n5 : (c == 5) = false) (n2 : (c == 2) = false) (n17 : (c == 17) = false) (d1 : (decide ((6 : Int) ≤ c) && decide (c ≤ (16 : Int))) = false) :
    Calls Tryd.prog 12 #[.agg #[.int .i64 c, .int .i64 d, .int .i64 a, .int .i64 b, .int .i64 e]] w (GivesInts w 0 []) := by
  have s1 := (Below.refl w.heap.size w).alloc (Nat.le_refl _) (Obj.cells #[Value.int IntKind.i64 c, Value.int IntKind.i64 d, Value.int IntKind.i64 a, Value.int IntKind.i64 b, Value.int IntKind.i64 e] 31)
  go_enter Tryd.func12, Tryd.ntmps12
  go_wp2_with (go_at_call 37; refine (in_any _ _ _ _).mono ?_; rintro r w' ⟨rfl, rfl⟩)
  go_ret
  exact ⟨_, 0, rfl, by omega, IntsAt.nil _ _, s1⟩
theorem refAsks_any (s : Stp) (w : World) : Calls Tryd.prog 12 #[.agg #[.int .i64 s.c, .int .i64 s.d, .int .i64 s.a, .int .i64 s.b, .int .i64 s.e]] w (GivesInts w (arityV s.c) (asksV s)) := by
  unfold asksV
  by_cases h1 : s.c = 4 ∨ s.c = 5 ∨ s.c = 2
  · rw [show arityV s.c = 1 by unfold arityV; rw [if_pos h1]]
    exact refAsks_1 _ _ _ _ _ w h1
  by_cases h2 : 6 ≤ s.c ∧ s.c ≤ 16
  · rw [show arityV s.c = 2 by unfold arityV; rw [if_neg h1, if_pos h2]]
    exact refAsks_2 _ _ _ _ _ w h2.1 h2.2
  by_cases h3 : s.c = 17
  · rw [show arityV s.c = 3 by unfold arityV; rw [if_neg h1, if_neg h2, if_pos h3]]
    exact refAsks_3 _ _ _ _ _ w h3
  · rw [show arityV s.c = 0 by unfold arityV; rw [if_neg h1, if_neg h2, if_neg h3]]
    exact refAsks_0 _ _ _ _ _ w (by simp; omega) (by simp; omega) (by simp; omega) (by simp; omega) (by simp; omega)
end Go.Proofs.YtgglbjniclkkpaaDoor

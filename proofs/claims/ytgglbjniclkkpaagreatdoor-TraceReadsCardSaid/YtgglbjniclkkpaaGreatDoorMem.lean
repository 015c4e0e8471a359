/-
  WORDS FOR MEMORY: a slice of ints, a slice of steps, code as it lies in memory; kept in every later world.
-/
import Derived.WalkKit
import Derived.Lib.Hide
import Derived.Laws.OwnMore
namespace Go.Proofs.YtgglbjniclkkpaaGreatDoor
open Go.RowKit

theorem cell_up {w W : World} {b o : Nat} {v : Value} (hb : Below w.heap.size w W) (h : w.cell? ⟨b, o, none⟩ = some v) : W.cell? ⟨b, o, none⟩ = some v :=
  (hb.cell (World.block_lt_of_cell? w _ h)).trans h
theorem lt_up {w W : World} {b o : Nat} {v : Value} (hb : Below w.heap.size w W) (h : w.cell? ⟨b, o, none⟩ = some v) : b < W.heap.size :=
  Nat.lt_of_lt_of_le (World.block_lt_of_cell? w _ h) hb.size
theorem below_up {w W W' : World} (h : Below w.heap.size w W) (h' : Below W.heap.size W W') : Below w.heap.size w W' := h.trans (h'.mono h.size)

/-- A step of code. -/
structure Stp where
  c : Int
  d : Int
  a : Int
  b : Int
  e : Int
/-- Code. -/
structure NetP where
  places : Int
  first : List Int
  ins : List Int
  outs : List Int
  keeps : List Int
  nums : List Int
  code : List Stp

/-- The slice at A, of n numbers, holds xs. -/
def IntsAt (w : World) (A : Option Addr) (n : Nat) (xs : List Int) : Prop :=
  xs.length = n ∧ (0 < n → ∃ b o, A = some ⟨b, o, none⟩ ∧ ∀ j, j < n → w.cell? ⟨b, o + j, none⟩ = some (.int .i64 (xs.getD j 0)))
/-- The slice at A, of n steps, holds cs. -/
def StepsAt (w : World) (A : Option Addr) (n : Nat) (cs : List Stp) : Prop :=
  cs.length = n ∧ (0 < n → ∃ b o, A = some ⟨b, o, none⟩ ∧ ∀ j, j < n → ∃ s, cs[j]? = some s ∧ w.cell? ⟨b, o + j * 5, none⟩ = some (.int .i64 s.c) ∧ w.cell? ⟨b, o + j * 5 + 1, none⟩ = some (.int .i64 s.d) ∧
    w.cell? ⟨b, o + j * 5 + 2, none⟩ = some (.int .i64 s.a) ∧ w.cell? ⟨b, o + j * 5 + 3, none⟩ = some (.int .i64 s.b) ∧ w.cell? ⟨b, o + j * 5 + 4, none⟩ = some (.int .i64 s.e))

section
variable {w W : World} {A : Option Addr} {n : Nat} {xs : List Int} {cs : List Stp}
theorem IntsAt.up (h : IntsAt w A n xs) (hb : Below w.heap.size w W) : IntsAt W A n xs :=
  ⟨h.1, fun hn => by
    obtain ⟨b, o, e, hc⟩ := h.2 hn
    exact ⟨b, o, e, fun j hj => cell_up hb (hc j hj)⟩⟩
theorem StepsAt.up (h : StepsAt w A n cs) (hb : Below w.heap.size w W) : StepsAt W A n cs :=
  ⟨h.1, fun hn => by
    obtain ⟨b, o, e, hc⟩ := h.2 hn
    refine ⟨b, o, e, fun j hj => ?_⟩
    obtain ⟨s, h0, h1, h2, h3, h4, h5⟩ := hc j hj
    exact ⟨s, h0, cell_up hb h1, cell_up hb h2, cell_up hb h3, cell_up hb h4, cell_up hb h5⟩⟩
theorem IntsAt.nil (w : World) (A : Option Addr) : IntsAt w A 0 [] := ⟨rfl, fun h => absurd h (by omega)⟩
theorem IntsAt.zero (h : IntsAt w A 0 xs) : xs = [] := List.eq_nil_of_length_eq_zero h.1
theorem StepsAt.zero (h : StepsAt w A 0 cs) : cs = [] := List.eq_nil_of_length_eq_zero h.1
/-- A beginning of it. -/
theorem IntsAt.take (h : IntsAt w A n xs) {k : Nat} (hk : k ≤ n) : IntsAt w A k (xs.take k) := by
  refine ⟨by rw [List.length_take, h.1]; omega, fun h0 => ?_⟩
  obtain ⟨b, o, e, hc⟩ := h.2 (by omega)
  refine ⟨b, o, e, fun j hj => ?_⟩
  rw [hc j (by omega)]
  simp [List.getD_eq_getElem?_getD, hj]
theorem IntsAt.drop_cons (h : IntsAt w A n xs) {k : Nat} (hk : k < n) : xs.drop k = xs.getD k 0 :: xs.drop (k + 1) := by
  have hl : k < xs.length := by rw [h.1]; exact hk
  rw [List.drop_eq_getElem_cons hl]
  simp [List.getD_eq_getElem?_getD, List.getElem?_eq_getElem hl]
theorem IntsAt.drop_end (h : IntsAt w A n xs) {k : Nat} (hk : n ≤ k) : xs.drop k = [] := List.drop_of_length_le (by rw [h.1]; exact hk)
theorem StepsAt.drop_end (h : StepsAt w A n cs) {k : Nat} (hk : n ≤ k) : cs.drop k = [] := List.drop_of_length_le (by rw [h.1]; exact hk)
theorem drop_step {k : Nat} {s : Stp} (h : cs[k]? = some s) : cs.drop k = s :: cs.drop (k + 1) := by
  obtain ⟨hl, e⟩ := List.getElem?_eq_some_iff.1 h
  rw [List.drop_eq_getElem_cons hl, e]
end

/-! ### what is looked for -/
/-- Where the first one is of which p holds (-1: there is none). -/
def findAt (p : Int → Bool) : List Int → Nat → Int
  | [], _ => -1
  | x :: r, k => if p x = true then (k : Int) else findAt p r (k + 1)
theorem findAt_pos (p : Int → Bool) : ∀ (xs : List Int) (k : Nat), decide (0 ≤ findAt p xs k) = xs.any p
  | [], k => by simp [findAt]
  | x :: r, k => by
    unfold findAt
    by_cases h : p x = true
    · rw [if_pos h, List.any_cons, h]; simp
    · rw [if_neg h, findAt_pos p r (k + 1), List.any_cons, Bool.eq_false_iff.2 h]; simp
end Go.Proofs.YtgglbjniclkkpaaGreatDoor

/-
  PLAIN: what steps ask, and whether code may be; no program in sight.
-/
import Derived.Test.YtgglbjniclkkpaaDoorMem
namespace Go.Proofs.YtgglbjniclkkpaaDoor
open Go.RowKit

/-- How many places a code asks. -/
def arityV (c : Int) : Nat := if c = 4 ∨ c = 5 ∨ c = 2 then 1 else if 6 ≤ c ∧ c ≤ 16 then 2 else if c = 17 then 3 else 0
theorem arity_le (c : Int) : arityV c ≤ 3 := by unfold arityV; split <;> (try split) <;> (try split) <;> omega
/-- What a step asks. -/
def asksV (s : Stp) : List Int := [s.a, s.b, s.e].take (arityV s.c)
theorem asks_len (s : Stp) : (asksV s).length = arityV s.c := by have := arity_le s.c; unfold asksV; simp; omega
/-- Is it a place? -/
def placeB (n : Int) (p : Int) : Bool := decide (0 ≤ p) && decide (p < n)
/-- What is wrong with a step (0: nothing). -/
def stepV (places nums : Int) (s : Stp) : Int :=
  if s.c ≠ 1 ∧ arityV s.c = 0 then 3
  else if placeB places s.d = false ∨ (asksV s).all (placeB places) = false then 2
  else if s.c = 1 ∧ (s.a < 0 ∨ nums ≤ s.a) then 2
  else if arityV s.c < 2 ∧ s.b ≠ 0 ∨ arityV s.c < 3 ∧ s.e ≠ 0 then 1
  else 0
/-- The first step with which something is wrong, and what (0 at -1: there is none). -/
def stepsV (places nums : Int) : List Stp → Nat → Int × Int
  | [], _ => (0, -1)
  | s :: r, i => if stepV places nums s = 0 then stepsV places nums r (i + 1) else (stepV places nums s, (i : Int))
/-- Is one of them there twice? -/
def twiceV : List Int → List Int → Bool
  | _, [] => false
  | seen, x :: r => if seen.any (· == x) = true then true else twiceV (seen ++ [x]) r
/-- Whether code may be, or what is wrong, and where. -/
def judgeV (N : NetP) : Int × Int :=
  if N.places < 0 then (4, -1)
  else if (N.first.length : Int) ≠ N.places then (3, -1)
  else if (N.ins ++ (N.outs ++ N.keeps)).any (fun p => !placeB N.places p) = true then (2, -1)
  else if twiceV [] N.ins = true then (9, -1)
  else stepsV N.places N.nums.length N.code 0

/-- Is there one among them that is no place? -/
def badB (P : Int) (xs : List Int) : Bool := xs.any (fun p => !placeB P p)
theorem badB_false {P : Int} {xs : List Int} : badB P xs = false ↔ xs.all (placeB P) = true := by
  unfold badB
  induction xs with
  | nil => simp
  | cons x r ih => rw [List.any_cons, List.all_cons, Bool.or_eq_false_iff, Bool.and_eq_true, ih]; simp
/-- An error without a place. -/
def bareV (e : Int) : Value := if e = 0 then .nilIface else .iface 36 (.int .i64 e)
section
variable {P m : Int} {s : Stp}
theorem step_form (h : s.c ≠ 1) (hk : arityV s.c = 0) : stepV P m s = 3 := by unfold stepV; rw [if_pos ⟨h, hk⟩]
theorem step_dst (h : s.c = 1 ∨ arityV s.c ≠ 0) (hd : placeB P s.d = false) : stepV P m s = 2 := by
  unfold stepV; rw [if_neg (by omega), if_pos (.inl hd)]
theorem step_bad (h : s.c = 1 ∨ arityV s.c ≠ 0) (hb : badB P (asksV s) = true) : stepV P m s = 2 := by
  unfold stepV
  rw [if_neg (by omega), if_pos (.inr (Bool.eq_false_iff.2 fun e => by rw [badB_false.2 e] at hb; cases hb))]
theorem step_num (h : s.c = 1) (hd : placeB P s.d = true) (hb : badB P (asksV s) = false) (ha : s.a < 0 ∨ m ≤ s.a) : stepV P m s = 2 := by
  unfold stepV
  rw [if_neg (by omega), if_neg (by rw [hd, badB_false.1 hb]; simp), if_pos ⟨h, ha⟩]
theorem step_arg (h : s.c = 1 ∨ arityV s.c ≠ 0) (hd : placeB P s.d = true) (hb : badB P (asksV s) = false) (ha : s.c ≠ 1 ∨ (0 ≤ s.a ∧ s.a < m)) (hx : arityV s.c < 2 ∧ s.b ≠ 0 ∨ arityV s.c < 3 ∧ s.e ≠ 0) : stepV P m s = 1 := by
  unfold stepV
  rw [if_neg (by omega), if_neg (by rw [hd, badB_false.1 hb]; simp), if_neg (by omega), if_pos hx]
theorem step_ok (h : s.c = 1 ∨ arityV s.c ≠ 0) (hd : placeB P s.d = true) (hb : badB P (asksV s) = false) (ha : s.c ≠ 1 ∨ (0 ≤ s.a ∧ s.a < m)) (hx : ¬ (arityV s.c < 2 ∧ s.b ≠ 0 ∨ arityV s.c < 3 ∧ s.e ≠ 0)) : stepV P m s = 0 := by
  unfold stepV
  rw [if_neg (by omega), if_neg (by rw [hd, badB_false.1 hb]; simp), if_neg (by omega), if_neg hx]
end
end Go.Proofs.YtgglbjniclkkpaaDoor

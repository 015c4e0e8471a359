/-
  PLAIN: numbers as bytes, code as bytes; no program in sight.
-/
import Derived.Test.YtgglbjniclkkpaaDoorNetPlain
import Derived.Lib.Zigzag
namespace Go.Proofs.YtgglbjniclkkpaaDoor
open Go.RowKit

/-- A number as bytes: twice it, or one less than twice as much below 0; seven bits a byte. -/
def putV (n : Int) : List UInt8 := Lib.uvarint (Lib.zigzag n)
/-- It is a number of 64 bits. -/
def okN (n : Int) : Prop := -9223372036854775808 ≤ n ∧ n ≤ 9223372036854775807
theorem zig_lt {n : Int} (h : okN n) : Lib.zigzag n < 18446744073709551616 := Lib.zigzag_lt h.1 h.2
theorem putV_len {n : Int} (h : okN n) : (putV n).length ≤ 10 := Lib.uvarint_length64 (zig_lt h)
theorem okN_nat {n : Nat} (h : n ≤ 1000000) : okN (n : Int) := by unfold okN; omega
/-- Numbers as bytes. -/
def numsV (xs : List Int) : List UInt8 := xs.flatMap putV
theorem numsV_len : ∀ (xs : List Int), (∀ x ∈ xs, okN x) → (numsV xs).length ≤ 10 * xs.length
  | [], _ => by simp [numsV]
  | x :: r, h => by
    have h1 := putV_len (h x (by simp))
    have h2 := numsV_len r (fun y hy => h y (by simp [hy]))
    unfold numsV at *
    simp only [List.flatMap_cons, List.length_append, List.length_cons]
    omega
theorem numsV_cons (x : Int) (r : List Int) : numsV (x :: r) = putV x ++ numsV r := by simp [numsV]
theorem numsV_append (a b : List Int) : numsV (a ++ b) = numsV a ++ numsV b := by simp [numsV]
/-- How many, and they. -/
def listV (xs : List Int) : List UInt8 := putV xs.length ++ numsV xs
/-- A step as bytes. -/
def stepB (s : Stp) : List UInt8 := putV s.c ++ putV s.d ++ (if s.c = 1 then putV s.a else []) ++ numsV (asksV s)
/-- Code as bytes. -/
def imageV (N : NetP) : List UInt8 :=
  [67, 76, 80, 49] ++ putV N.places ++ listV N.first ++ listV N.ins ++ listV N.outs ++ listV N.keeps ++ listV N.nums ++ putV N.code.length ++ N.code.flatMap stepB
/-- All its numbers are of 64 bits. -/
def OkStp (s : Stp) : Prop := okN s.c ∧ okN s.d ∧ okN s.a ∧ okN s.b ∧ okN s.e
theorem asks_ok {s : Stp} (h : OkStp s) : ∀ x ∈ asksV s, okN x := by
  intro x hx
  have := List.mem_of_mem_take hx
  simp only [List.mem_cons, List.not_mem_nil, or_false] at this
  obtain ⟨h1, h2, h3, h4, h5⟩ := h
  rcases this with rfl | rfl | rfl <;> assumption
theorem stepB_len {s : Stp} (h : OkStp s) : (stepB s).length ≤ 60 := by
  have h1 := putV_len h.1
  have h2 := putV_len h.2.1
  have h3 := putV_len h.2.2.1
  have h4 := numsV_len _ (asks_ok h)
  have h5 := asks_len s
  have h6 := arity_le s.c
  unfold stepB
  split <;> simp only [List.length_append, List.length_nil] <;> omega
structure OkNet (N : NetP) : Prop where
  p : okN N.places
  first : ∀ x ∈ N.first, okN x
  ins : ∀ x ∈ N.ins, okN x
  outs : ∀ x ∈ N.outs, okN x
  keeps : ∀ x ∈ N.keeps, okN x
  nums : ∀ x ∈ N.nums, okN x
  code : ∀ s ∈ N.code, OkStp s
/-- What 'put' computes of a number: twice it, its sign's bits turned. -/
theorem put_pos {n : Int} (h : okN n) (h0 : 0 ≤ n) : bits .xor .u64 (IntKind.u64.wrap (IntKind.u64.wrap n * 2)) 0 = ((Lib.zigzag n : Nat) : Int) := by
  unfold okN at h
  have e1 : IntKind.u64.wrap (IntKind.u64.wrap n * 2) = (((2 * n).toNat : Nat) : Int) := by
    rw [IntKind.wrap_u64, IntKind.wrap_u64]
    omega
  have e2 : (0 : Int) = ((0 : Nat) : Int) := rfl
  rw [e1, e2, bits_xor_u64_nat _ _ (by omega) (by decide), Nat.xor_zero]
  unfold Lib.zigzag
  rw [if_pos h0]
theorem put_neg {n : Int} (h : okN n) (h0 : n < 0) : bits .xor .u64 (IntKind.u64.wrap (IntKind.u64.wrap n * 2)) 18446744073709551615 = ((Lib.zigzag n : Nat) : Int) := by
  unfold okN at h
  have e1 : IntKind.u64.wrap (IntKind.u64.wrap n * 2) = (((2 * n + 18446744073709551616).toNat : Nat) : Int) := by
    rw [IntKind.wrap_u64, IntKind.wrap_u64]
    omega
  have e2 : (18446744073709551615 : Int) = ((2 ^ 64 - 1 : Nat) : Int) := by decide
  have hb : (2 * n + 18446744073709551616).toNat < 2 ^ 64 := by omega
  have e3 := Lib.xor_ones64 _ hb
  rw [Nat.xor_comm] at e3
  rw [e1, e2, bits_xor_u64_nat _ _ (by omega) (by decide), e3]
  unfold Lib.zigzag
  rw [if_neg (by omega)]
  omega
/-- What ref.Put computes of a number. -/
theorem refput_pos {n : Int} (h : okN n) (h0 : 0 ≤ n) : IntKind.u64.wrap (IntKind.u64.wrap n * 2) = ((Lib.zigzag n : Nat) : Int) := by
  unfold okN at h
  unfold Lib.zigzag
  rw [if_pos h0, IntKind.wrap_u64, IntKind.wrap_u64]
  omega
theorem refput_neg {n : Int} (h : okN n) (h0 : n < 0) : IntKind.u64.wrap (IntKind.u64.wrap (IntKind.u64.wrap (-(IntKind.u64.wrap n)) * 2) - 1) = ((Lib.zigzag n : Nat) : Int) := by
  unfold okN at h
  unfold Lib.zigzag
  rw [if_neg (by omega), IntKind.wrap_u64, IntKind.wrap_u64, IntKind.wrap_u64, IntKind.wrap_u64]
  omega
end Go.Proofs.YtgglbjniclkkpaaDoor

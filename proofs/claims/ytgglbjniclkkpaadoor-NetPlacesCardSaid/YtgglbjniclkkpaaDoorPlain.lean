/-
  PLAIN: what the codes of one, two, three numbers come to; no program in sight.
-/
import Derived.WalkKit
import Derived.Lib.Hide
namespace Go.Proofs.YtgglbjniclkkpaaDoor
open Go.RowKit

/-- 1 where it holds, else 0. -/
def tru (p : Bool) : Int := if p then 1 else 0
/-- The quotient, cut to the side of 0; by 0 it is 0. -/
def divV (a b : Int) : Int := if b = 0 then 0 else wrap64 (a.tdiv b)
/-- What is left; by 0 it is 0. -/
def modV (a b : Int) : Int := if b = 0 then 0 else a.tmod b
/-- A code of one number. -/
def oneV (c a : Int) : Int := if c = 4 then wrap64 (-a) else if c = 5 then tru (a == 0) else 0
/-- A code of two numbers. -/
def twoV (c a b : Int) : Int :=
  if c = 6 then wrap64 (a + b) else if c = 7 then wrap64 (a - b) else if c = 8 then wrap64 (a * b)
  else if c = 9 then divV a b else if c = 10 then modV a b
  else if c = 11 then tru (a == b) else if c = 12 then tru (!(a == b)) else if c = 13 then tru (decide (a < b)) else if c = 14 then tru (decide (a ≤ b))
  else if c = 15 then tru (!(a == 0) && !(b == 0)) else if c = 16 then tru (!(a == 0) || !(b == 0)) else 0
/-- A code of three numbers. -/
def pickV (a b c : Int) : Int := if a = 0 then c else b

/-- A number without its sign. -/
def absI (a : Int) : Int := if a < 0 then -a else a
theorem absI_nonneg (a : Int) : 0 ≤ absI a := by unfold absI; split <;> omega
theorem absI_le {a : Int} (h : -9223372036854775808 ≤ a ∧ a ≤ 9223372036854775807) : absI a ≤ 9223372036854775808 := by unfold absI; split <;> omega
theorem absI_zero {a : Int} (h : a ≠ 0) : absI a ≠ 0 := by unfold absI; split <;> omega
theorem wf_bd {a : Int} (h : (Lit.int .i64 a).wf = true) : -9223372036854775808 ≤ a ∧ a ≤ 9223372036854775807 := by
  simpa [Lit.wf, IntKind.min, IntKind.max, IntKind.signed, IntKind.bits] using h
theorem wrap64_wrap64_neg (n : Int) : wrap64 (-wrap64 n) = wrap64 (-n) := by unfold wrap64; omega
theorem wrap64_idem (n : Int) : wrap64 (wrap64 n) = wrap64 n := by unfold wrap64; omega
theorem wrap64_same {m n : Int} (k : Int) (h : m = n + 18446744073709551616 * k) : wrap64 m = wrap64 n := by unfold wrap64; omega
theorem wrap64_ex (n : Int) : ∃ k, wrap64 n = n + 18446744073709551616 * k := ⟨-((n + 9223372036854775808) / 18446744073709551616), by unfold wrap64; omega⟩
theorem wrap64_mul_left (m n : Int) : wrap64 (wrap64 m * n) = wrap64 (m * n) := by
  obtain ⟨k, hk⟩ := wrap64_ex m
  rw [hk]
  exact wrap64_same (k * n) (by rw [Int.add_mul, Int.mul_assoc])
theorem wrap64_sub_right (m n : Int) : wrap64 (m - wrap64 n) = wrap64 (m - n) := by unfold wrap64; omega
theorem wrap64_in {n : Int} (h : -9223372036854775808 ≤ n ∧ n ≤ 9223372036854775807) : wrap64 n = n := by unfold wrap64; omega
/-- The quotient by the sizes, signed, is the quotient cut to the side of 0. -/
theorem tdiv_absI (a b : Int) : a.tdiv b = if decide (a < 0) != decide (b < 0) then -(absI a / absI b) else absI a / absI b := by
  unfold absI
  by_cases ha : a < 0 <;> by_cases hb : b < 0 <;> simp only [ha, hb, if_true, if_false, decide_true, decide_false]
  · rw [show a = -(-a) by omega, show b = -(-b) by omega, Int.neg_tdiv, Int.tdiv_neg, Int.tdiv_eq_ediv_of_nonneg (by omega)]; simp
  · rw [show a = -(-a) by omega, Int.neg_tdiv, Int.tdiv_eq_ediv_of_nonneg (by omega)]; simp
  · rw [show b = -(-b) by omega, Int.tdiv_neg, Int.tdiv_eq_ediv_of_nonneg (by omega)]; simp
  · rw [Int.tdiv_eq_ediv_of_nonneg (by omega)]; simp
theorem tmod_eq (a b : Int) : a - a.tdiv b * b = a.tmod b := by
  have := Int.tmod_add_mul_tdiv a b
  rw [Int.mul_comm]; omega
theorem emod_le_self {a b : Int} (h : 0 ≤ a) : a % b ≤ a := by
  have h1 := Int.emod_add_mul_ediv a b
  by_cases hb : b = 0
  · subst hb; simp
  · have h2 : 0 ≤ b * (a / b) := by
      rcases Int.lt_or_lt_of_ne hb with hb' | hb'
      · exact Int.mul_nonneg_of_nonpos_of_nonpos (by omega) (Int.ediv_nonpos_of_nonneg_of_nonpos h (by omega))
      · exact Int.mul_nonneg (by omega) (Int.ediv_nonneg h (by omega))
    omega
theorem tmod_bd {a b : Int} (ha : -9223372036854775808 ≤ a ∧ a ≤ 9223372036854775807) : -9223372036854775808 ≤ a.tmod b ∧ a.tmod b ≤ 9223372036854775807 := by
  rcases Int.le_total 0 a with h | h
  · have h1 := Int.tmod_nonneg b h
    have h2 : a.tmod b ≤ a := by
      rw [Int.tmod_eq_emod_of_nonneg h]
      exact emod_le_self h
    omega
  · have e : a.tmod b = -((-a).tmod b) := by rw [Int.neg_tmod, Int.neg_neg]
    have h1 := Int.tmod_nonneg b (show 0 ≤ -a by omega)
    have h2 : (-a).tmod b ≤ -a := by
      rw [Int.tmod_eq_emod_of_nonneg (by omega)]
      exact emod_le_self (by omega)
    omega

theorem u64q (a b : Int) (ha : -9223372036854775808 ≤ a ∧ a ≤ 9223372036854775807) : IntKind.u64.wrap ((absI a).tdiv (absI b)) = absI a / absI b := by
  have h0 := absI_nonneg a
  have h1 := absI_le ha
  have h2 := Int.ediv_nonneg h0 (absI_nonneg b)
  have h3 : absI a / absI b ≤ absI a := Int.ediv_le_self _ h0
  rw [Int.tdiv_eq_ediv_of_nonneg h0, IntKind.wrap_u64]
  omega
/-- The reference's quotient, before its sign: the sizes' quotient, wrapped. -/
theorem div_pos (a b : Int) (ha : -9223372036854775808 ≤ a ∧ a ≤ 9223372036854775807) (h : (!(decide (a < 0) == decide (b < 0))) = false) : wrap64 (IntKind.u64.wrap ((absI a).tdiv (absI b))) = wrap64 (a.tdiv b) := by
  rw [u64q a b ha, tdiv_absI, bne, h]; simp
theorem div_neg (a b : Int) (ha : -9223372036854775808 ≤ a ∧ a ≤ 9223372036854775807) (h : (!(decide (a < 0) == decide (b < 0))) = true) : wrap64 (-wrap64 (IntKind.u64.wrap ((absI a).tdiv (absI b)))) = wrap64 (a.tdiv b) := by
  rw [u64q a b ha, tdiv_absI, bne, h, wrap64_wrap64_neg]; simp
theorem mod_of (a b : Int) (ha : -9223372036854775808 ≤ a ∧ a ≤ 9223372036854775807) : wrap64 (a - wrap64 (wrap64 (a.tdiv b) * b)) = a.tmod b := by
  rw [wrap64_mul_left, wrap64_sub_right, tmod_eq, wrap64_in (tmod_bd ha)]

theorem u64_ex (n : Int) : ∃ k, IntKind.u64.wrap n = n + 18446744073709551616 * k := ⟨-(n / 18446744073709551616), by rw [IntKind.wrap_u64]; omega⟩
theorem wrap64_u64 (n : Int) : wrap64 (IntKind.u64.wrap n) = wrap64 n := by
  obtain ⟨k, hk⟩ := u64_ex n
  exact wrap64_same k hk
theorem u_add (a b : Int) : wrap64 (IntKind.u64.wrap (IntKind.u64.wrap a + IntKind.u64.wrap b)) = wrap64 (a + b) := by
  obtain ⟨k, hk⟩ := u64_ex a
  obtain ⟨l, hl⟩ := u64_ex b
  rw [wrap64_u64, hk, hl]
  exact wrap64_same (k + l) (by omega)
theorem u_sub (a b : Int) : wrap64 (IntKind.u64.wrap (IntKind.u64.wrap a - IntKind.u64.wrap b)) = wrap64 (a - b) := by
  obtain ⟨k, hk⟩ := u64_ex a
  obtain ⟨l, hl⟩ := u64_ex b
  rw [wrap64_u64, hk, hl]
  exact wrap64_same (k - l) (by omega)
theorem u_mul (a b : Int) : wrap64 (IntKind.u64.wrap (IntKind.u64.wrap a * IntKind.u64.wrap b)) = wrap64 (a * b) := by
  obtain ⟨k, hk⟩ := u64_ex a
  obtain ⟨l, hl⟩ := u64_ex b
  rw [wrap64_u64, hk, hl]
  exact wrap64_same (a * l + k * b + 18446744073709551616 * (k * l)) (by
    simp only [Int.add_mul, Int.mul_add, Int.mul_assoc]
    rw [Int.mul_left_comm a 18446744073709551616 l, Int.mul_left_comm k 18446744073709551616 l]
    omega)
end Go.Proofs.YtgglbjniclkkpaaDoor

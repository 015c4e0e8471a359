/-
  PLAIN: the facts of which ValueEven speaks: sums are those of 64 bits; what is divided is put together again; less, same, and more are one of three; what holds is yes or no.
-/
import Derived.Test.YtgglbjniclkkpaaPlain
namespace Go.Proofs.Ytgglbjniclkkpaa
open Go.RowKit

theorem bne_no {a b : Int} (h : a = b) : (a != b) = false := by simp [h]
theorem bne_yes {a b : Int} (h : a ≠ b) : (a != b) = true := by simp [h]
theorem beq_yes {a b : Int} (h : a = b) : (a == b) = true := by simp [h]
theorem beq_no {a b : Int} (h : a ≠ b) : (a == b) = false := by simp [h]

theorem two6 (a b : Int) : twoV 6 a b = wrap64 (a + b) := by simp [twoV]
theorem two7 (a b : Int) : twoV 7 a b = wrap64 (a - b) := by simp [twoV]
theorem two8 (a b : Int) : twoV 8 a b = wrap64 (a * b) := by simp [twoV]
theorem two9 (a b : Int) : twoV 9 a b = divV a b := by simp [twoV]
theorem two10 (a b : Int) : twoV 10 a b = modV a b := by simp [twoV]
theorem two11 (a b : Int) : twoV 11 a b = if a = b then 1 else 0 := by simp [twoV, tru]
theorem two12 (a b : Int) : twoV 12 a b = if a = b then 0 else 1 := by by_cases h : a = b <;> simp [twoV, tru, h]
theorem two13 (a b : Int) : twoV 13 a b = if a < b then 1 else 0 := by simp [twoV, tru]
theorem two14 (a b : Int) : twoV 14 a b = if a ≤ b then 1 else 0 := by simp [twoV, tru]
theorem two15 (a b : Int) : twoV 15 a b = if a = 0 ∨ b = 0 then 0 else 1 := by by_cases h : a = 0 <;> by_cases k : b = 0 <;> simp [twoV, tru, h, k]
theorem two16 (a b : Int) : twoV 16 a b = if a = 0 ∧ b = 0 then 0 else 1 := by by_cases h : a = 0 <;> by_cases k : b = 0 <;> simp [twoV, tru, h, k]
theorem one4 (a : Int) : oneV 4 a = wrap64 (-a) := by simp [oneV]
theorem one5 (a : Int) : oneV 5 a = if a = 0 then 1 else 0 := by simp [oneV, tru]

theorem f1 (a b : Int) : twoV 6 a b = twoV 6 b a := by rw [two6, two6, Int.add_comm]
theorem f2 (a b : Int) (ha : -9223372036854775808 ≤ a ∧ a ≤ 9223372036854775807) : twoV 7 (twoV 6 a b) b = a := by rw [two6, two7]; unfold wrap64; omega
theorem f3 (a : Int) : twoV 6 (oneV 4 a) a = 0 := by rw [two6, one4]; unfold wrap64; omega
theorem wrap64_mul_right (m n : Int) : wrap64 (m * wrap64 n) = wrap64 (m * n) := by rw [Int.mul_comm, wrap64_mul_left, Int.mul_comm]
theorem wrap64_add (m n : Int) : wrap64 (wrap64 m + wrap64 n) = wrap64 (m + n) := by unfold wrap64; omega
theorem f4 (a b c : Int) : twoV 8 a (twoV 6 b c) = twoV 6 (twoV 8 a b) (twoV 8 a c) := by
  rw [two6, two6, two8, two8, two8, wrap64_mul_right, wrap64_add, Int.mul_add]
theorem f5 (a b : Int) (ha : -9223372036854775808 ≤ a ∧ a ≤ 9223372036854775807) (hb : b ≠ 0) : twoV 6 (twoV 8 (twoV 9 a b) b) (twoV 10 a b) = a := by
  rw [two6, two8, two9, two10, divV, modV, if_neg hb, if_neg hb, wrap64_mul_left]
  have h := Int.tmod_add_mul_tdiv a b
  rw [Int.mul_comm] at h
  have e : wrap64 (wrap64 (a.tdiv b * b) + a.tmod b) = wrap64 (a.tdiv b * b + a.tmod b) := by unfold wrap64; omega
  rw [e, show a.tdiv b * b + a.tmod b = a by omega, wrap64_in ha]
theorem f6 (a b : Int) (hb : b ≠ 0) (hr : twoV 10 a b ≠ 0) : decide (twoV 10 a b < 0) = decide (a < 0) := by
  rw [two10, modV, if_neg hb] at *
  by_cases h : a < 0
  · have e : a.tmod b = -((-a).tmod b) := by rw [Int.neg_tmod, Int.neg_neg]
    have h1 := Int.tmod_nonneg b (show 0 ≤ -a by omega)
    simp only [h, decide_true, decide_eq_true_eq]
    omega
  · have h1 := Int.tmod_nonneg b (show 0 ≤ a by omega)
    simp only [h, decide_false, decide_eq_false_iff_not]
    omega
theorem f7 (a : Int) : twoV 9 a 0 = 0 := by rw [two9, divV, if_pos rfl]
theorem f8 (a : Int) : twoV 10 a 0 = 0 := by rw [two10, modV, if_pos rfl]
theorem two13_bd (a b : Int) : 0 ≤ twoV 13 a b ∧ twoV 13 a b ≤ 1 := by rw [two13]; split <;> omega
theorem two11_bd (a b : Int) : 0 ≤ twoV 11 a b ∧ twoV 11 a b ≤ 1 := by rw [two11]; split <;> omega
theorem two12_bd (a b : Int) : 0 ≤ twoV 12 a b ∧ twoV 12 a b ≤ 1 := by rw [two12]; split <;> omega
theorem two14_bd (a b : Int) : 0 ≤ twoV 14 a b ∧ twoV 14 a b ≤ 1 := by rw [two14]; split <;> omega
theorem f9 (a b : Int) : twoV 13 a b + twoV 11 a b + twoV 13 b a = 1 := by rw [two13, two11, two13]; split <;> split <;> split <;> omega
theorem f10 (a b : Int) : twoV 14 a b + twoV 13 b a = 1 := by rw [two14, two13]; split <;> split <;> omega
theorem f11 (a b : Int) : twoV 12 a b + twoV 11 a b = 1 := by rw [two12, two11]; split <;> omega
theorem f12 (a b : Int) : oneV 5 (twoV 15 a b) = twoV 16 (oneV 5 a) (oneV 5 b) := by
  rw [two15, two16, one5, one5, one5]
  by_cases h : a = 0 <;> by_cases k : b = 0 <;> simp [h, k]
theorem f13 (a : Int) : oneV 5 (oneV 5 (oneV 5 a)) = oneV 5 a := by
  rw [one5 (oneV 5 (oneV 5 a)), one5 (oneV 5 a), one5 a]
  by_cases h : a = 0 <;> simp [h]
theorem f14 (a b : Int) : pickV a b b = b := by unfold pickV; split <;> rfl
theorem f15 (a b c : Int) : pickV (oneV 5 a) b c = pickV a c b := by
  rw [one5, pickV, pickV]
  by_cases h : a = 0 <;> simp [h]
end Go.Proofs.Ytgglbjniclkkpaa

/-
  THE WALKS of value.One, Two, Pick, and the references' One, Two, Pick: each returns what the plain functions say, and leaves the world alone.
-/
import Derived.Test.YtgglbjniclkkpaaDoorProg
import Derived.Test.YtgglbjniclkkpaaDoorPlain
import Derived.WalkKit
import Derived.WalkLawsBesides
import Derived.WalkSpells
namespace Go.Proofs.YtgglbjniclkkpaaDoor
open Go.RowKit

theorem ret_int {k : IntKind} {a b : Int} (h : a = b) : Ending.returned (.int k a) = .returned (.int k b) := by rw [h]

theorem truth_any (p : Bool) (w : World) : Calls Tryd.prog 83 #[.bool p] w fun e w' => e = .returned (.int .i64 (tru p)) ∧ w = w' := by
  cases p
  all_goals
    go_enter Tryd.func83, Tryd.ntmps83
    go_wp2
    go_ret
    exact ⟨rfl, rfl⟩
theorem yes_any (p : Bool) (w : World) : Calls Tryd.prog 85 #[.bool p] w fun e w' => e = .returned (.int .i64 (tru p)) ∧ w = w' := by
  cases p
  all_goals
    go_enter Tryd.func85, Tryd.ntmps85
    go_wp2
    go_ret
    exact ⟨rfl, rfl⟩

theorem one_any (c a : Int) (w : World) : Calls Tryd.prog 64 #[.int .i64 c, .int .i64 a] w fun e w' => e = .returned (.int .i64 (oneV c a)) ∧ w = w' := by
  by_cases h4 : c = 4
  · subst h4
    go_enter Tryd.func64, Tryd.ntmps64
    go_wp2
    go_ret
    exact ⟨ret_int (by simp [oneV]), rfl⟩
  by_cases h5 : c = 5
  · subst h5
    go_enter Tryd.func64, Tryd.ntmps64
    go_wp2_with (go_at_call 83; refine (truth_any _ _).mono ?_; rintro e w' ⟨rfl, rfl⟩)
    go_ret
    exact ⟨ret_int (by simp [oneV]), rfl⟩
  have n4 : (c == 4) = false := by simpa using h4
  have n5 : (c == 5) = false := by simpa using h5
  have e : oneV c a = 0 := by simp [oneV, h4, h5]
  rw [e]
  clear e h4 h5
  go_enter Tryd.func64, Tryd.ntmps64
  go_wp2
  go_ret
  exact ⟨rfl, rfl⟩

theorem one_ref (c a : Int) (w : World) : Calls Tryd.prog 67 #[.int .i64 c, .int .i64 a] w fun e w' => e = .returned (.int .i64 (oneV c a)) ∧ w = w' := by
  by_cases h4 : c = 4
  · subst h4
    go_enter Tryd.func67, Tryd.ntmps67
    go_wp2
    go_ret
    exact ⟨ret_int (by simp [oneV]), rfl⟩
  by_cases h5 : c = 5
  · subst h5
    go_enter Tryd.func67, Tryd.ntmps67
    go_wp2_with (go_at_call 85; refine (yes_any _ _).mono ?_; rintro e w' ⟨rfl, rfl⟩)
    go_ret
    exact ⟨ret_int (by simp [oneV]), rfl⟩
  have n4 : (c == 4) = false := by simpa using h4
  have n5 : (c == 5) = false := by simpa using h5
  have e : oneV c a = 0 := by simp [oneV, h4, h5]
  rw [e]
  clear e h4 h5
  go_enter Tryd.func67, Tryd.ntmps67
  go_wp2_with (go_at_call 85; refine (yes_any _ _).mono ?_; rintro e w' ⟨rfl, rfl⟩)
  go_ret
  exact ⟨ret_int (by simp [tru]), rfl⟩

theorem pick_any (a b c : Int) (w : World) : Calls Tryd.prog 66 #[.int .i64 a, .int .i64 b, .int .i64 c] w fun e w' => e = .returned (.int .i64 (pickV a b c)) ∧ w = w' := by
  by_cases h : a = 0
  · subst h
    go_enter Tryd.func66, Tryd.ntmps66
    go_wp2
    go_ret
    exact ⟨ret_int (by simp [pickV]), rfl⟩
  · have n : (a == 0) = false := by simpa using h
    have n' : (a != 0) = true := by simpa using h
    have e : pickV a b c = b := by simp [pickV, h]
    rw [e]
    clear e h
    go_enter Tryd.func66, Tryd.ntmps66
    go_wp2
    go_ret
    exact ⟨rfl, rfl⟩
theorem pick_ref (a b c : Int) (w : World) : Calls Tryd.prog 69 #[.int .i64 a, .int .i64 b, .int .i64 c] w fun e w' => e = .returned (.int .i64 (pickV a b c)) ∧ w = w' := by
  by_cases h : a = 0
  · subst h
    go_enter Tryd.func69, Tryd.ntmps69
    go_wp2
    go_ret
    exact ⟨ret_int (by simp [pickV]), rfl⟩
  · have n : (a == 0) = false := by simpa using h
    have n' : (a != 0) = true := by simpa using h
    have e : pickV a b c = b := by simp [pickV, h]
    rw [e]
    clear e h
    go_enter Tryd.func69, Tryd.ntmps69
    go_wp2
    go_ret
    exact ⟨rfl, rfl⟩

/-! ### value.Two -/
theorem part_div (a b : Int) (w : World) : Calls Tryd.prog 84 #[.int .i64 9, .int .i64 a, .int .i64 b] w fun e w' => e = .returned (.int .i64 (divV a b)) ∧ w = w' := by
  by_cases h : b = 0
  · subst h
    go_enter Tryd.func84, Tryd.ntmps84
    go_wp2
    go_ret
    exact ⟨ret_int (by simp [divV]), rfl⟩
  have n : (b == 0) = false := by simpa using h
  have ed : divV a b = wrap64 (a.tdiv b) := by simp [divV, h]
  by_cases hm : a = -9223372036854775808
  · by_cases hb : b = -1
    · subst hb hm
      clear ed
      go_enter Tryd.func84, Tryd.ntmps84
      go_wp2
      go_ret
      exact ⟨ret_int (by decide +kernel), rfl⟩
    have nb : (b == -1) = false := by simpa using hb
    have na : (a == -9223372036854775808) = true := by simpa using hm
    rw [ed]
    clear ed hb hm
    go_enter Tryd.func84, Tryd.ntmps84
    go_wp2
    go_ret
    exact ⟨rfl, rfl⟩
  have nm : (a == -9223372036854775808) = false := by simpa using hm
  rw [ed]
  clear ed hm
  go_enter Tryd.func84, Tryd.ntmps84
  go_wp2
  go_ret
  exact ⟨rfl, rfl⟩
theorem part_mod (a b : Int) (w : World) : Calls Tryd.prog 84 #[.int .i64 10, .int .i64 a, .int .i64 b] w fun e w' => e = .returned (.int .i64 (modV a b)) ∧ w = w' := by
  by_cases h : b = 0
  · subst h
    go_enter Tryd.func84, Tryd.ntmps84
    go_wp2
    go_ret
    exact ⟨ret_int (by simp [modV]), rfl⟩
  have n : (b == 0) = false := by simpa using h
  have ed : modV a b = a.tmod b := by simp [modV, h]
  by_cases hm : a = -9223372036854775808
  · by_cases hb : b = -1
    · subst hb hm
      clear ed
      go_enter Tryd.func84, Tryd.ntmps84
      go_wp2
      go_ret
      exact ⟨ret_int (by decide +kernel), rfl⟩
    have nb : (b == -1) = false := by simpa using hb
    have na : (a == -9223372036854775808) = true := by simpa using hm
    rw [ed]
    clear ed hb hm
    go_enter Tryd.func84, Tryd.ntmps84
    go_wp2
    go_ret
    exact ⟨rfl, rfl⟩
  have nm : (a == -9223372036854775808) = false := by simpa using hm
  rw [ed]
  clear ed hm
  go_enter Tryd.func84, Tryd.ntmps84
  go_wp2
  go_ret
  exact ⟨rfl, rfl⟩

theorem two_any (c a b : Int) (w : World) : Calls Tryd.prog 65 #[.int .i64 c, .int .i64 a, .int .i64 b] w fun e w' => e = .returned (.int .i64 (twoV c a b)) ∧ w = w' := by
  have bi : ∀ (p q r s : Bool) (w : World), ((Instr.index 144 (.agg #[.bool p, .bool q, .bool r, .bool s]) (.int .i64 0)).run Tryd.prog w = .ok (.bool p) w) ∧ ((Instr.index 144 (.agg #[.bool p, .bool q, .bool r, .bool s]) (.int .i64 1)).run Tryd.prog w = .ok (.bool q) w)
      ∧ ((Instr.index 144 (.agg #[.bool p, .bool q, .bool r, .bool s]) (.int .i64 2)).run Tryd.prog w = .ok (.bool r) w) ∧ ((Instr.index 144 (.agg #[.bool p, .bool q, .bool r, .bool s]) (.int .i64 3)).run Tryd.prog w = .ok (.bool s) w) := fun _ _ _ _ _ => ⟨by kernel_rfl, by kernel_rfl, by kernel_rfl, by kernel_rfl⟩
  by_cases h6 : c = 6
  · subst h6
    clear bi
    go_enter Tryd.func65, Tryd.ntmps65
    go_wp2
    go_ret
    exact ⟨ret_int (by simp [twoV]), rfl⟩
  by_cases h7 : c = 7
  · subst h7
    clear bi
    go_enter Tryd.func65, Tryd.ntmps65
    go_wp2
    go_ret
    exact ⟨ret_int (by simp [twoV]), rfl⟩
  by_cases h8 : c = 8
  · subst h8
    clear bi
    go_enter Tryd.func65, Tryd.ntmps65
    go_wp2
    go_ret
    exact ⟨ret_int (by simp [twoV]), rfl⟩
  by_cases h9 : c = 9
  · subst h9
    clear bi
    go_enter Tryd.func65, Tryd.ntmps65
    go_wp2_with (go_at_call 84; refine (part_div _ _ _).mono ?_; rintro e w' ⟨rfl, rfl⟩)
    go_ret
    exact ⟨ret_int (by simp [twoV]), rfl⟩
  by_cases h10 : c = 10
  · subst h10
    clear bi
    go_enter Tryd.func65, Tryd.ntmps65
    go_wp2_with (go_at_call 84; refine (part_mod _ _ _).mono ?_; rintro e w' ⟨rfl, rfl⟩)
    go_ret
    exact ⟨ret_int (by simp [twoV]), rfl⟩
  by_cases h11 : c = 11
  · subst h11
    have i0 := fun w => (bi (a == b) (a != b) (decide (a < b)) (decide (a ≤ b)) w).1
    clear bi
    go_enter Tryd.func65, Tryd.ntmps65
    go_wp2_with (go_at_call 83; refine (truth_any _ _).mono ?_; rintro e w' ⟨rfl, rfl⟩)
    go_ret
    exact ⟨ret_int (by first | (simp [twoV]; done) | (simp [twoV, bne]; done)), rfl⟩
  by_cases h12 : c = 12
  · subst h12
    have i0 := fun w => (bi (a == b) (a != b) (decide (a < b)) (decide (a ≤ b)) w).2.1
    clear bi
    go_enter Tryd.func65, Tryd.ntmps65
    go_wp2_with (go_at_call 83; refine (truth_any _ _).mono ?_; rintro e w' ⟨rfl, rfl⟩)
    go_ret
    exact ⟨ret_int (by first | (simp [twoV]; done) | (simp [twoV, bne]; done)), rfl⟩
  by_cases h13 : c = 13
  · subst h13
    have i0 := fun w => (bi (a == b) (a != b) (decide (a < b)) (decide (a ≤ b)) w).2.2.1
    clear bi
    go_enter Tryd.func65, Tryd.ntmps65
    go_wp2_with (go_at_call 83; refine (truth_any _ _).mono ?_; rintro e w' ⟨rfl, rfl⟩)
    go_ret
    exact ⟨ret_int (by first | (simp [twoV]; done) | (simp [twoV, bne]; done)), rfl⟩
  by_cases h14 : c = 14
  · subst h14
    have i0 := fun w => (bi (a == b) (a != b) (decide (a < b)) (decide (a ≤ b)) w).2.2.2
    clear bi
    go_enter Tryd.func65, Tryd.ntmps65
    go_wp2_with (go_at_call 83; refine (truth_any _ _).mono ?_; rintro e w' ⟨rfl, rfl⟩)
    go_ret
    exact ⟨ret_int (by first | (simp [twoV]; done) | (simp [twoV, bne]; done)), rfl⟩
  by_cases h15 : c = 15
  · subst h15
    clear bi
    by_cases ha : a = 0
    · subst ha
      go_enter Tryd.func65, Tryd.ntmps65
      go_wp2_with (go_at_call 83; refine (truth_any _ _).mono ?_; rintro e w' ⟨rfl, rfl⟩)
      go_ret
      exact ⟨ret_int (by first | (simp [twoV]; done) | (simp [twoV, bne]; done)), rfl⟩
    · have na : (a != 0) = true := by simpa using ha
      go_enter Tryd.func65, Tryd.ntmps65
      go_wp2_with (go_at_call 83; refine (truth_any _ _).mono ?_; rintro e w' ⟨rfl, rfl⟩)
      go_ret
      exact ⟨ret_int (by first | (simp [twoV, show (a == 0) = false by simpa using na]; done) | (simp [twoV, bne, show (a == 0) = false by simpa using na]; done)), rfl⟩
  by_cases h16 : c = 16
  · subst h16
    clear bi
    by_cases ha : a = 0
    · subst ha
      go_enter Tryd.func65, Tryd.ntmps65
      go_wp2_with (go_at_call 83; refine (truth_any _ _).mono ?_; rintro e w' ⟨rfl, rfl⟩)
      go_ret
      exact ⟨ret_int (by first | (simp [twoV]; done) | (simp [twoV, bne]; done)), rfl⟩
    · have na : (a != 0) = true := by simpa using ha
      go_enter Tryd.func65, Tryd.ntmps65
      go_wp2_with (go_at_call 83; refine (truth_any _ _).mono ?_; rintro e w' ⟨rfl, rfl⟩)
      go_ret
      exact ⟨ret_int (by first | (simp [twoV, show (a == 0) = false by simpa using na]; done) | (simp [twoV, bne, show (a == 0) = false by simpa using na]; done)), rfl⟩
  clear bi
  have n6 : (c == 6) = false := by simpa using h6
  have n7 : (c == 7) = false := by simpa using h7
  have n8 : (c == 8) = false := by simpa using h8
  have n9 : (c == 9) = false := by simpa using h9
  have n10 : (c == 10) = false := by simpa using h10
  have n11 : (c == 11) = false := by simpa using h11
  have n12 : (c == 12) = false := by simpa using h12
  have n13 : (c == 13) = false := by simpa using h13
  have n14 : (c == 14) = false := by simpa using h14
  have n15 : (c == 15) = false := by simpa using h15
  have n16 : (c == 16) = false := by simpa using h16
  have e : twoV c a b = 0 := by simp [twoV, h6, h7, h8, h9, h10, h11, h12, h13, h14, h15, h16]
  rw [e]
  clear e h6 h7 h8 h9 h10 h11 h12 h13 h14 h15 h16
  go_enter Tryd.func65, Tryd.ntmps65
  go_wp2
  go_ret
  exact ⟨rfl, rfl⟩

/-! ### the references' size, divide, Two -/
/-- A number's size. -/
theorem size_any (a : Int) (wa : (Lit.int .i64 a).wf = true) (w : World) : Calls Tryd.prog 92 #[.int .i64 a] w fun e w' => e = .returned (.int .u64 (absI a)) ∧ w = w' := by
  have hb := wf_bd wa
  by_cases h : a < 0
  · go_enter Tryd.func92, Tryd.ntmps92
    go_wp2
    go_ret
    exact ⟨ret_int (by rw [absI, if_pos h]; simp only [IntKind.wrap_u64]; omega), rfl⟩
  · go_enter Tryd.func92, Tryd.ntmps92
    go_wp2
    go_ret
    exact ⟨ret_int (by rw [absI, if_neg (by omega)]), rfl⟩
theorem divide_any (a b : Int) (wa : (Lit.int .i64 a).wf = true) (wb : (Lit.int .i64 b).wf = true) (w : World) :
    Calls Tryd.prog 86 #[.int .i64 a, .int .i64 b] w fun e w' => e = .returned (.tuple #[.int .i64 (divV a b), .int .i64 (modV a b)]) ∧ w = w' := by
  by_cases h : b = 0
  · subst h
    go_enter Tryd.func86, Tryd.ntmps86
    go_wp2
    go_ret2
    exact ⟨by simp [divV, modV], rfl⟩
  have n : (b == 0) = false := by simpa using h
  have ea := absI_nonneg a
  have eb : 1 ≤ absI b := by have := absI_nonneg b; have := absI_zero h; omega
  have hq := Int.ediv_nonneg ea (show 0 ≤ absI b by omega)
  have hm := Lib.hid (mod_of a b (wf_bd wa))
  have e1 := Lib.hid (show divV a b = wrap64 (a.tdiv b) by simp [divV, h])
  have e2 := Lib.hid (show modV a b = a.tmod b by simp [modV, h])
  have wa' := wf_bd wa
  have hp := Lib.hid (div_pos a b wa')
  have hn := Lib.hid (div_neg a b wa')
  clear h wa'
  go_enter Tryd.func86, Tryd.ntmps86
  go_wp2_with (go_at_call 92; refine (size_any _ (by assumption) _).mono ?_; rintro e w' ⟨rfl, rfl⟩)
  · have hs : (!(decide (a < 0) == decide (b < 0))) = true := by assumption
    go_ret2
    have hd := hn.out hs
    exact ⟨by show Ending.returned (.tuple #[.int .i64 (wrap64 (-wrap64 (IntKind.u64.wrap ((absI a).tdiv (absI b))))), .int .i64 (wrap64 (a - wrap64 (wrap64 (-wrap64 (IntKind.u64.wrap ((absI a).tdiv (absI b)))) * b)))]) = _
              rw [hd, hm.out, e1.out, e2.out], rfl⟩
  · have hs : (!(decide (a < 0) == decide (b < 0))) = false := by assumption
    go_ret2
    have hd := hp.out hs
    exact ⟨by show Ending.returned (.tuple #[.int .i64 (wrap64 (IntKind.u64.wrap ((absI a).tdiv (absI b)))), .int .i64 (wrap64 (a - wrap64 (wrap64 (IntKind.u64.wrap ((absI a).tdiv (absI b))) * b)))]) = _
              rw [hd, hm.out, e1.out, e2.out], rfl⟩

theorem two_ref (c a b : Int) (wa : (Lit.int .i64 a).wf = true) (wb : (Lit.int .i64 b).wf = true) (w : World) : Calls Tryd.prog 68 #[.int .i64 c, .int .i64 a, .int .i64 b] w fun e w' => e = .returned (.int .i64 (twoV c a b)) ∧ w = w' := by
  by_cases h6 : c = 6
  · subst h6
    go_enter Tryd.func68, Tryd.ntmps68
    go_wp2
    go_ret
    exact ⟨ret_int (by rw [show twoV 6 a b = wrap64 (a + b) by simp [twoV]]; exact u_add a b), rfl⟩
  by_cases h7 : c = 7
  · subst h7
    go_enter Tryd.func68, Tryd.ntmps68
    go_wp2
    go_ret
    exact ⟨ret_int (by rw [show twoV 7 a b = wrap64 (a - b) by simp [twoV]]; exact u_sub a b), rfl⟩
  by_cases h8 : c = 8
  · subst h8
    go_enter Tryd.func68, Tryd.ntmps68
    go_wp2
    go_ret
    exact ⟨ret_int (by rw [show twoV 8 a b = wrap64 (a * b) by simp [twoV]]; exact u_mul a b), rfl⟩
  by_cases h9 : c = 9
  · subst h9
    go_enter Tryd.func68, Tryd.ntmps68
    go_wp2_with (go_at_call 86; refine (divide_any _ _ (by assumption) (by assumption) _).mono ?_; rintro e w' ⟨rfl, rfl⟩)
    go_ret
    exact ⟨ret_int (by simp [twoV]), rfl⟩
  by_cases h10 : c = 10
  · subst h10
    go_enter Tryd.func68, Tryd.ntmps68
    go_wp2_with (go_at_call 86; refine (divide_any _ _ (by assumption) (by assumption) _).mono ?_; rintro e w' ⟨rfl, rfl⟩)
    go_ret
    exact ⟨ret_int (by simp [twoV]), rfl⟩
  by_cases h11 : c = 11
  · subst h11
    go_enter Tryd.func68, Tryd.ntmps68
    go_wp2_with (go_at_call 85; refine (yes_any _ _).mono ?_; rintro e w' ⟨rfl, rfl⟩)
    go_ret
    exact ⟨ret_int (by first | (simp [twoV]; done) | (simp [twoV, ← Int.not_lt, decide_not]; done)), rfl⟩
  by_cases h12 : c = 12
  · subst h12
    go_enter Tryd.func68, Tryd.ntmps68
    go_wp2_with (go_at_call 85; refine (yes_any _ _).mono ?_; rintro e w' ⟨rfl, rfl⟩)
    go_ret
    exact ⟨ret_int (by first | (simp [twoV]; done) | (simp [twoV, ← Int.not_lt, decide_not]; done)), rfl⟩
  by_cases h13 : c = 13
  · subst h13
    go_enter Tryd.func68, Tryd.ntmps68
    go_wp2_with (go_at_call 85; refine (yes_any _ _).mono ?_; rintro e w' ⟨rfl, rfl⟩)
    go_ret
    exact ⟨ret_int (by first | (simp [twoV]; done) | (simp [twoV, ← Int.not_lt, decide_not]; done)), rfl⟩
  by_cases h14 : c = 14
  · subst h14
    go_enter Tryd.func68, Tryd.ntmps68
    go_wp2_with (go_at_call 85; refine (yes_any _ _).mono ?_; rintro e w' ⟨rfl, rfl⟩)
    go_ret
    exact ⟨ret_int (by first | (simp [twoV]; done) | (simp [twoV, ← Int.not_lt, decide_not]; done)), rfl⟩
  by_cases h15 : c = 15
  · subst h15
    by_cases ha : a = 0
    · subst ha
      go_enter Tryd.func68, Tryd.ntmps68
      go_wp2_with (go_at_call 85; refine (yes_any _ _).mono ?_; rintro e w' ⟨rfl, rfl⟩)
      go_ret
      exact ⟨ret_int (by first | (simp [twoV]; done) | (simp [twoV, bne]; done)), rfl⟩
    · have na : (a == 0) = false := by simpa using ha
      go_enter Tryd.func68, Tryd.ntmps68
      go_wp2_with (go_at_call 85; refine (yes_any _ _).mono ?_; rintro e w' ⟨rfl, rfl⟩)
      go_ret
      exact ⟨ret_int (by first | (simp [twoV, na]; done) | (simp [twoV, bne, na]; done)), rfl⟩
  by_cases h16 : c = 16
  · subst h16
    by_cases ha : a = 0
    · subst ha
      go_enter Tryd.func68, Tryd.ntmps68
      go_wp2_with (go_at_call 85; refine (yes_any _ _).mono ?_; rintro e w' ⟨rfl, rfl⟩)
      go_ret
      exact ⟨ret_int (by first | (simp [twoV]; done) | (simp [twoV, bne]; done)), rfl⟩
    · have na : (a == 0) = false := by simpa using ha
      go_enter Tryd.func68, Tryd.ntmps68
      go_wp2_with (go_at_call 85; refine (yes_any _ _).mono ?_; rintro e w' ⟨rfl, rfl⟩)
      go_ret
      exact ⟨ret_int (by first | (simp [twoV, na]; done) | (simp [twoV, bne, na]; done)), rfl⟩
  have n6 : (c == 6) = false := by simpa using h6
  have n7 : (c == 7) = false := by simpa using h7
  have n8 : (c == 8) = false := by simpa using h8
  have n9 : (c == 9) = false := by simpa using h9
  have n10 : (c == 10) = false := by simpa using h10
  have n11 : (c == 11) = false := by simpa using h11
  have n12 : (c == 12) = false := by simpa using h12
  have n13 : (c == 13) = false := by simpa using h13
  have n14 : (c == 14) = false := by simpa using h14
  have n15 : (c == 15) = false := by simpa using h15
  have n16 : (c == 16) = false := by simpa using h16
  have e : twoV c a b = 0 := by simp [twoV, h6, h7, h8, h9, h10, h11, h12, h13, h14, h15, h16]
  rw [e]
  clear e h6 h7 h8 h9 h10 h11 h12 h13 h14 h15 h16
  go_enter Tryd.func68, Tryd.ntmps68
  go_wp2
  go_ret
  exact ⟨rfl, rfl⟩
end Go.Proofs.YtgglbjniclkkpaaDoor

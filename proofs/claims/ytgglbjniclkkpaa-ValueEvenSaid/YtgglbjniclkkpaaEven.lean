/-
  THE STATEMENT ValueEven: the walk of the law over the contracts of its callees; for every input, no condition.
-/
import Derived.Test.YtgglbjniclkkpaaRows
import Derived.Test.YtgglbjniclkkpaaValues
import Derived.Test.YtgglbjniclkkpaaEvenPlain
import Derived.ProofKit
import Derived.OpenShut
namespace Go.Proofs.Ytgglbjniclkkpaa.valueEven
open Go.ChangeShapes Go.WideShapes Go.ChangeAt Go.RowKit

theorem own : ownKnob Try.prog.godebug = none := by kernel_rfl

theorem counted_any (w : World) : Calls Try.prog 12 #[] w fun e w' => e = .returned (.bool true) ∧ w = w' := by
  have e1 : (twoV 9 (-7) 2 == -3) = true := by decide +kernel
  have e2 : (twoV 10 (-7) 2 == -1) = true := by decide +kernel
  have e3 : (oneV 5 0 == 1) = true := by decide +kernel
  have e4 : (pickV 0 1 2 == 2) = true := by decide +kernel
  go_enter Try.func12, Try.ntmps12
  go_wp2_with (first | (go_at_call 6; refine (one_any _ _ _).mono ?_; rintro e w' ⟨rfl, rfl⟩) | (go_at_call 8; refine (two_any _ _ _ _).mono ?_; rintro e w' ⟨rfl, rfl⟩) | (go_at_call 10; refine (pick_any _ _ _ _).mono ?_; rintro e w' ⟨rfl, rfl⟩))
  go_ret
  exact ⟨rfl, rfl⟩
theorem not_any (a : Int) (w : World) : Calls Try.prog 13 #[.int .i64 a] w fun e w' => e = .returned (.int .i64 (oneV 5 a)) ∧ w = w' := by
  go_enter Try.func13, Try.ntmps13
  go_wp2_with (go_at_call 6; refine (one_any _ _ _).mono ?_; rintro e w' ⟨rfl, rfl⟩)
  go_ret
  exact ⟨rfl, rfl⟩

/-- What the tests before the divided parts come to. -/
structure Easy (a b c : Int) : Prop where
  e1 : (twoV 6 a b != twoV 6 b a) = false
  e2 : (twoV 7 (twoV 6 a b) b != a) = false
  e3 : (twoV 6 (oneV 4 a) a != 0) = false
  e4 : (twoV 8 a (twoV 6 b c) != twoV 6 (twoV 8 a b) (twoV 8 a c)) = false
  e9 : (twoV 13 a b + twoV 11 a b + twoV 13 b a != 1) = false
  e10 : (twoV 14 a b + twoV 13 b a != 1) = false
  e11 : (twoV 12 a b + twoV 11 a b != 1) = false
  e12 : (oneV 5 (twoV 15 a b) == twoV 16 (oneV 5 a) (oneV 5 b)) = true
  e13 : (oneV 5 (oneV 5 (oneV 5 a)) == oneV 5 a) = true
  e14 : (pickV a b b == b) = true
  e15 : (pickV (oneV 5 a) b c == pickV a c b) = true
theorem easy (a b c : Int) (ha : -9223372036854775808 ≤ a ∧ a ≤ 9223372036854775807) : Easy a b c :=
  ⟨bne_no (f1 a b), bne_no (f2 a b ha), bne_no (f3 a), bne_no (f4 a b c), bne_no (f9 a b), bne_no (f10 a b), bne_no (f11 a b), beq_yes (f12 a b), beq_yes (f13 a), beq_yes (f14 a b), beq_yes (f15 a b c)⟩

set_option maxRecDepth 100000 in
set_option maxHeartbeats 4000000 in
theorem walk0 (a0 a2 : Int) (E : Easy a0 0 a2) (c1 : (twoV 9 a0 0 != 0) = false) (c2 : (twoV 10 a0 0 != 0) = false) (w : World) :
    Calls Try.prog 4 #[.int .i64 a0, .int .i64 0, .int .i64 a2] w fun e w' => e = .returned (.bool true) ∧ Grown w w' := by
  obtain ⟨e1, e2, e3, e4, e9, e10, e11, e12, e13, e14, e15⟩ := E
  have b1 := two13_bd a0 0
  have b2 := two13_bd 0 a0
  have b3 := two11_bd a0 0
  have b4 := two12_bd a0 0
  have b5 := two14_bd a0 0
  go_enter Try.func4, Try.ntmps4
  go_wp2_with (first | (go_at_call 6; refine (one_any _ _ _).mono ?_; rintro e w' ⟨rfl, rfl⟩) | (go_at_call 8; refine (two_any _ _ _ _).mono ?_; rintro e w' ⟨rfl, rfl⟩) | (go_at_call 10; refine (pick_any _ _ _ _).mono ?_; rintro e w' ⟨rfl, rfl⟩) | (go_at_call 13; refine (not_any _ _).mono ?_; rintro e w' ⟨rfl, rfl⟩) | (go_at_call 12; refine (counted_any _).mono ?_; rintro e w' ⟨rfl, rfl⟩))
  go_ret
  exact ⟨rfl, Grown.refl _⟩
set_option maxRecDepth 100000 in
set_option maxHeartbeats 4000000 in
theorem walk1 (a0 a1 a2 : Int) (E : Easy a0 a1 a2) (n0 : (a1 == 0) = false) (n1 : (a1 != 0) = true) (c5 : (twoV 6 (twoV 8 (twoV 9 a0 a1) a1) (twoV 10 a0 a1) != a0) = false) (r0 : (twoV 10 a0 a1 != 0) = false) (w : World) :
    Calls Try.prog 4 #[.int .i64 a0, .int .i64 a1, .int .i64 a2] w fun e w' => e = .returned (.bool true) ∧ Grown w w' := by
  obtain ⟨e1, e2, e3, e4, e9, e10, e11, e12, e13, e14, e15⟩ := E
  have b1 := two13_bd a0 a1
  have b2 := two13_bd a1 a0
  have b3 := two11_bd a0 a1
  have b4 := two12_bd a0 a1
  have b5 := two14_bd a0 a1
  go_enter Try.func4, Try.ntmps4
  go_wp2_with (first | (go_at_call 6; refine (one_any _ _ _).mono ?_; rintro e w' ⟨rfl, rfl⟩) | (go_at_call 8; refine (two_any _ _ _ _).mono ?_; rintro e w' ⟨rfl, rfl⟩) | (go_at_call 10; refine (pick_any _ _ _ _).mono ?_; rintro e w' ⟨rfl, rfl⟩) | (go_at_call 13; refine (not_any _ _).mono ?_; rintro e w' ⟨rfl, rfl⟩) | (go_at_call 12; refine (counted_any _).mono ?_; rintro e w' ⟨rfl, rfl⟩))
  go_ret
  exact ⟨rfl, Grown.refl _⟩
set_option maxRecDepth 100000 in
set_option maxHeartbeats 4000000 in
theorem walk2 (a0 a1 a2 : Int) (E : Easy a0 a1 a2) (n0 : (a1 == 0) = false) (n1 : (a1 != 0) = true) (c5 : (twoV 6 (twoV 8 (twoV 9 a0 a1) a1) (twoV 10 a0 a1) != a0) = false) (r1 : (twoV 10 a0 a1 != 0) = true)
    (r4 : (decide (twoV 10 a0 a1 < 0) == decide (a0 < 0)) = true) (w : World) :
    Calls Try.prog 4 #[.int .i64 a0, .int .i64 a1, .int .i64 a2] w fun e w' => e = .returned (.bool true) ∧ Grown w w' := by
  obtain ⟨e1, e2, e3, e4, e9, e10, e11, e12, e13, e14, e15⟩ := E
  have b1 := two13_bd a0 a1
  have b2 := two13_bd a1 a0
  have b3 := two11_bd a0 a1
  have b4 := two12_bd a0 a1
  have b5 := two14_bd a0 a1
  go_enter Try.func4, Try.ntmps4
  go_wp2_with (first | (go_at_call 6; refine (one_any _ _ _).mono ?_; rintro e w' ⟨rfl, rfl⟩) | (go_at_call 8; refine (two_any _ _ _ _).mono ?_; rintro e w' ⟨rfl, rfl⟩) | (go_at_call 10; refine (pick_any _ _ _ _).mono ?_; rintro e w' ⟨rfl, rfl⟩) | (go_at_call 13; refine (not_any _ _).mono ?_; rintro e w' ⟨rfl, rfl⟩) | (go_at_call 12; refine (counted_any _).mono ?_; rintro e w' ⟨rfl, rfl⟩))
  go_ret
  exact ⟨rfl, Grown.refl _⟩
theorem walk (a0 : Int) (a1 : Int) (a2 : Int) (w0 : (Lit.int .i64 a0).wf = true) (_w1 : (Lit.int .i64 a1).wf = true) (_w2 : (Lit.int .i64 a2).wf = true) (w : World) :
    Calls Try.prog 4 #[.int .i64 a0, .int .i64 a1, .int .i64 a2] w fun e w' => e = .returned (.bool true) ∧ Grown w w' := by
  have hb := wf_bd w0
  have E := easy a0 a1 a2 hb
  by_cases h : a1 = 0
  · subst h
    exact walk0 a0 a2 E (bne_no (f7 a0)) (bne_no (f8 a0)) w
  by_cases hr : twoV 10 a0 a1 = 0
  · exact walk1 a0 a1 a2 E (beq_no h) (bne_yes h) (bne_no (f5 a0 a1 hb h)) (bne_no hr) w
  · exact walk2 a0 a1 a2 E (beq_no h) (bne_yes h) (bne_no (f5 a0 a1 hb h)) (bne_yes hr) (by rw [f6 a0 a1 h hr]; simp) w

/-! ### THE ROW's STEP: WRITTEN OUT: LEAVE IT -/
set_option maxRecDepth 100000 in
theorem lifted (os : Os) (started : os.Started) (H : Type) (enc : TypeId × Value → H) :
    ReturnsInHanded {} Try.checked os 4 .any (Rows.valueEvenSpec.pre6 enc Try.prog Try.f4 Rows.valueEvenRow.domain false) (Rows.valueEvenSpec.post enc Try.prog Try.f4 false true false false) := by
  refine returnsInHanded_of_change (C := Try.checked) own started (by kernel_rfl) Try.func4
    (ChangeSpec.witness6 (enc := enc) (C := Try.checked) false ⟨#[], #[.int .i64 0, .int .i64 0, .int .i64 0], []⟩ 8 (by kernel_rfl) (by kernel_rfl) (by kernel_rfl) (by kernel_rfl)) ?_
  intro W base args ds gs before hval0 hW hcnd _
  have hval : ∀ (j : Nat) t v, Try.f4.params[j]? = some t → args[j]? = some v → Value.okWide Try.prog W .any base t v := hval0
  have hW' := hW
  obtain ⟨p, q, hA0, hV, rfl, hfz, hnd⟩ := hW
  have hA : DataW.TrodAll enc Try.prog W 0 (fun _ => true) true Try.f4.params.toList args.toList ds p := hA0
  rw [Try.params4] at hA hval
  obtain ⟨v0, vs0, d0, ds0, p0, q0, hargs, rfl, rfl, h0, r0⟩ := trodAll_cons hA
  obtain ⟨v1, vs1, d1, ds1, p1, q1, rfl, rfl, rfl, h1, r1⟩ := trodAll_cons r0
  obtain ⟨v2, vs2, d2, ds2, p2, q2, rfl, rfl, rfl, h2, r2⟩ := trodAll_cons r1
  obtain ⟨rfl, rfl, rfl⟩ := trodAll_nil r2
  obtain rfl : args = #[v0, v1, v2] := by cases args; simp_all
  obtain ⟨rfl, rfl⟩ := trodVars_none hV
  obtain ⟨a0, rfl, rfl, rfl, w0⟩ := open_int Try.underlying2 (hval 0 2 v0 rfl rfl) h0
  obtain ⟨a1, rfl, rfl, rfl, w1⟩ := open_int Try.underlying2 (hval 1 2 v1 rfl rfl) h1
  obtain ⟨a2, rfl, rfl, rfl, w2⟩ := open_int Try.underlying2 (hval 2 2 v2 rfl rfl) h2
  clear hA0 hval0
  simp only [List.append_nil] at hW'
  refine (walk a0 a1 a2 w0 w1 w2 W).mono fun e W' ⟨he, hg⟩ => ?_
  subst he
  exact ⟨_, rfl, post_of_same (pa := []) (pv := []) hW' (fun _ _ _ => (trodAll_cons_mk (shut_bool Try.underlying4 _) trodAll_mk0)) (fun sp _ => (trodAll_cons_mk (shut_int Try.underlying2 w0) (trodAll_cons_mk (shut_int Try.underlying2 w1) (trodAll_cons_mk (shut_int Try.underlying2 w2) trodAll_mk0)))) (fun _ _ => rfl) rfl
    (hg.frame _) hg.2.1 (ok_one (by kernel_rfl) rfl (okWide_bool_mk Try.underlying4 _))⟩

theorem over : Rows.valueEvenRow.holds Try.pinned (OpenSpec.ofChange Rows.valueEvenSpec) :=
  OpenClaim.holds_of_wide 4 Try.f4 rfl rfl rfl rfl rfl rfl rfl ⟨rfl, rfl, rfl, rfl, rfl⟩ rfl rfl rfl rfl rfl (by kernel_rfl) Try.func4 (by kernel_rfl)
    (of_decide_eq_true (by kernel_rfl)) (by unfold Func.isWrapper; first | (rw [if_pos (by decide +kernel)]; kernel_rfl) | (rw [if_neg (by decide +kernel)]; exact ⟨rfl, rfl⟩))
    (fun os started H enc _ => lifted os started H enc)

/-- ████ THE STATEMENT ████ -/
theorem proved : Rows.ValueEvenSaid :=
  over

end Go.Proofs.Ytgglbjniclkkpaa.valueEven

/-
  THE STATEMENT NetRuns: the row, and the tied card.
-/
import Derived.Test.YtgglbjniclkkpaaDoorLaid
import Derived.Test.YtgglbjniclkkpaaDoorRuns
import Derived.Test.YtgglbjniclkkpaaDoorTie
import Derived.Test.YtgglbjniclkkpaaDoorCards
import Derived.SevenTiedAt
namespace Go.Proofs.YtgglbjniclkkpaaDoor.netRuns
open Go.ChangeShapes Go.WideShapes Go.RowKit

set_option maxRecDepth 100000 in
theorem lifted (os : Os) (started : os.Started) (H : Type) (enc : TypeId × Value → H) :
    ReturnsInHanded {} Tryd.checked os 8 .any (fun w args => (Rows.netRunsSpec.pre enc Tryd.prog Tryd.f8 [] false w args ∧ laidMetH Tryd.prog laidBoth w) ∧ sizedMet enc Tryd.prog Tryd.f8 (OpenSpec.ofChange Rows.netRunsSpec) false w args)
      (Rows.netRunsSpec.post enc Tryd.prog Tryd.f8 false true false false) := by
  refine returnsInHanded_of_change_and (C := Tryd.checked) (X := fun w _ => laidMetH Tryd.prog laidBoth w) (fun _ _ _ hh h => h.of_heap hh) own started (by kernel_rfl) Tryd.func8
    (ChangeSpec.witness_at (enc := enc) (C := Tryd.checked) (os := os) (X := fun w _ => laidMetH Tryd.prog laidBoth w) false (laidWorld os) #[.agg #[.int .i64 0, .slice none 0 0, .slice none 0 0, .slice none 0 0, .slice none 0 0, .slice none 0 0, .slice none 0 0], .slice none 0 0] 8 rfl (by kernel_rfl) (by kernel_rfl) (by kernel_rfl) (by kernel_rfl) (by kernel_rfl) (laidWorld_both os _)) ?_
  intro W base args ds gs before hval0 hW _ _ hL _
  have hval : ∀ (j : Nat) t v, Tryd.f8.params[j]? = some t → args[j]? = some v → Value.okWide Tryd.prog W .any base t v := hval0
  have hW' := hW
  obtain ⟨p, q, hA0, hV0, rfl, hfz, hnd⟩ := hW
  have hA : DataW.TrodAll enc Tryd.prog W 0 (fun _ => true) true Tryd.f8.params.toList args.toList ds p := hA0
  have hV : DataW.TrodVars enc Tryd.prog W (fun _ => true) [] gs q := hV0
  rw [Tryd.params8] at hA hval
  obtain ⟨v0, v1, d0, d1, p0, p1, rfl, rfl, rfl, h0, h1⟩ := trodAll_two hA
  have hg := handle_of_both hL
  have hfi := fine_of_both hL
  obtain ⟨rfl, rfl⟩ : gs = [] ∧ q = [] := by
    cases gs with
    | nil => exact ⟨rfl, hV⟩
    | cons g r => exact absurd hV (by intro h; cases h)
  have e1 : Rows.netRunsSpec.fn H ([d0, d1] ++ []) = { results := [.lit (.bool true)], args := [d0, d1] } := by simp [Rows.netRunsSpec]
  obtain ⟨P, A1, A2, A3, A4, A5, A6, n1, c1, n2, c2, n3, c3, n4, c4, n5, c5, n6, c6, N, rfl, hO, hN⟩ := net_open_ok (hval 0 26 v0 rfl rfl) h0
  obtain ⟨x1, y1, z1, rfl⟩ := Go.WideShapes.okWide_slice Tryd.underlying58 (hval 1 58 v1 rfl rfl)
  obtain ⟨f1, hf1⟩ := h1
  obtain ⟨B1, m1, e1', R, hv1, hR⟩ := rows_open hf1
  cases hv1
  have hw : Calls Tryd.prog 8 #[.agg #[.int .i64 P, .slice A1 n1 c1, .slice A2 n2 c2, .slice A3 n3 c3, .slice A4 n4 c4, .slice A5 n5 c5, .slice A6 n6 c6], .slice x1 y1 z1] W fun r w' => r = .returned (.bool true) ∧ Below W.heap.size W w' := by
    by_cases hh : heldB P n1 n2 n3 n4 n5 n6 = true ∧ fewB R = true
    · have hb := hh.1
      unfold heldB at hb
      rw [decide_eq_true_iff] at hb
      obtain ⟨b0, b1, b2, b3, b4, b5, b6⟩ := hb
      exact runs_yes P A1 A2 A3 A4 A5 A6 n1 c1 n2 c2 n3 c3 n4 c4 n5 c5 n6 c6 N x1 y1 z1 R W (hN b0 b1 b2 b3 b4 b5 b6) hO hg hfi hR hh.1 hh.2
    · exact runs_no P A1 A2 A3 A4 A5 A6 n1 c1 n2 c2 n3 c3 n4 c4 n5 c5 n6 c6 x1 y1 z1 R W hR hh
  refine hw.mono fun e W' ⟨he, hb⟩ => ?_
  subst he
  refine ⟨_, rfl, _, _, _, [], p0 ++ p1, [], hW', ?_, ?_, ?_, ?_, fun h => by cases h⟩
  · rw [e1]; exact trodAll_mk1 (shut_bool Tryd.underlying4 true)
  · rw [e1]; exact trodAll_mk2 (Below.trod (by kernel_rfl) (by kernel_rfl) (of_decide_eq_true (by kernel_rfl)) h0 hb (fun x hx => by simpa using hW'.lt x (by simp [hx]))) (Below.trod (by kernel_rfl) (by kernel_rfl) (of_decide_eq_true (by kernel_rfl)) ⟨f1, hf1⟩ hb (fun x hx => by simpa using hW'.lt x (by simp [hx])))
  · rw [e1]; rfl
  · exact hb.frame _

theorem holds : Rows.NetRunsSaid :=
  OpenClaim.holds_of_wide 8 Tryd.f8 rfl rfl rfl rfl rfl rfl rfl ⟨rfl, rfl, rfl, rfl, rfl⟩ rfl rfl rfl rfl rfl (by kernel_rfl) Tryd.func8 (by kernel_rfl)
    (of_decide_eq_true (by kernel_rfl)) (by unfold Func.isWrapper; rw [if_neg (of_decide_eq_false (by kernel_rfl))]; exact ⟨rfl, rfl⟩)
    (fun os started H enc _ => lifted os started H enc)

/-- ████ THE STATEMENT ████ -/
theorem proved : Rows.NetRunsCardSaid :=
  Claim7.holds_tied_plain_at .later [] [.handle, .data] true (true, "d319b22cd1062fa812d101cf786b15cef70c8bcd07d5ab8cccfb18a4d3284dee") true
    holds (fun _ h => by cases h) (by kernel_rfl) (fun _ h => by cases h) netRuns_row_tie rfl ⟨rfl, rfl⟩ (by kernel_rfl) rfl
    (fun f fn hf hfn => by
      obtain rfl : f = 8 := Option.some.inj ((show Tryd.prog.funcNamed "clepsydra/clepsydralaw.NetRuns" = some 8 by kernel_rfl).symm.trans hf) |>.symm
      obtain rfl : fn = Tryd.f8 := (Option.some.inj (Tryd.func8.symm.trans hfn)).symm
      exact ⟨by kernel_rfl, fun j t ht => by
        rw [Tryd.params8] at ht
        have h3 : t = 26 ∨ t = 58 := by
          rcases j with _ | _ | j
          · left; simpa using ht.symm
          · right; simpa using ht.symm
          · simp at ht
        rcases h3 with rfl | rfl
        · exact (show Tryd.prog.wantsStandIn 26 = false by kernel_rfl)
        · exact (show Tryd.prog.wantsStandIn 58 = false by kernel_rfl)⟩)
    (by kernel_rfl)
#print axioms proved
end Go.Proofs.YtgglbjniclkkpaaDoor.netRuns

/-
  THE STATEMENT NetPlaces: the row, and the tied card.
-/
import Derived.Test.YtgglbjniclkkpaaDoorLaid
import Derived.Test.YtgglbjniclkkpaaDoorPlaces
import Derived.Test.YtgglbjniclkkpaaDoorOpen
import Derived.Test.YtgglbjniclkkpaaDoorFew
import Derived.Carry
import Derived.Test.YtgglbjniclkkpaaDoorTie
import Derived.Test.YtgglbjniclkkpaaDoorCards
import Derived.SevenTiedAt
namespace Go.Proofs.YtgglbjniclkkpaaDoor.netPlaces
open Go.ChangeShapes Go.WideShapes Go.RowKit

set_option maxRecDepth 100000 in
theorem lifted (os : Os) (started : os.Started) (H : Type) (enc : TypeId × Value → H) :
    ReturnsInHanded {} Tryd.checked os 7 .any (fun w args => (Rows.netPlacesSpec.pre enc Tryd.prog Tryd.f7 [] false w args ∧ laidMetH Tryd.prog laidOne w) ∧ sizedMet enc Tryd.prog Tryd.f7 (OpenSpec.ofChange Rows.netPlacesSpec) false w args)
      (Rows.netPlacesSpec.post enc Tryd.prog Tryd.f7 false true false false) := by
  refine returnsInHanded_of_change_and (C := Tryd.checked) (X := fun w _ => laidMetH Tryd.prog laidOne w) (fun _ _ _ hh h => h.of_heap hh) own started (by kernel_rfl) Tryd.func7
    (ChangeSpec.witness_at (enc := enc) (C := Tryd.checked) (os := os) (X := fun w _ => laidMetH Tryd.prog laidOne w) false (laidWorld os) #[.agg #[.int .i64 0, .slice none 0 0, .slice none 0 0, .slice none 0 0, .slice none 0 0, .slice none 0 0, .slice none 0 0], .int .i64 0, .slice none 0 0, .slice none 0 0] 8 rfl (by kernel_rfl) (by kernel_rfl) (by kernel_rfl) (by kernel_rfl) (by kernel_rfl) (laidWorld_one os _)) ?_
  intro W base args ds gs before hval0 hW _ _ hL _
  have hval : ∀ (j : Nat) t v, Tryd.f7.params[j]? = some t → args[j]? = some v → Value.okWide Tryd.prog W .any base t v := hval0
  have hW' := hW
  obtain ⟨p, q, hA0, hV0, rfl, hfz, hnd⟩ := hW
  have hA : DataW.TrodAll enc Tryd.prog W 0 (fun _ => true) true Tryd.f7.params.toList args.toList ds p := hA0
  have hV : DataW.TrodVars enc Tryd.prog W (fun _ => true) [] gs q := hV0
  rw [Tryd.params7] at hA hval
  obtain ⟨v0, v1, v2, v3, d0, d1, d2, d3, p0, p1, p2, p3, rfl, rfl, rfl, h0, h1, h2, h3⟩ := trodAll_four hA
  have hg := handle_of_one hL
  obtain ⟨rfl, rfl⟩ : gs = [] ∧ q = [] := by
    cases gs with
    | nil => exact ⟨rfl, hV⟩
    | cons g r => exact absurd hV (by intro h; cases h)
  have e1 : Rows.netPlacesSpec.fn H ([d0, d1, d2, d3] ++ []) = { results := [.lit (.bool true)], args := [d0, d1, d2, d3] } := by simp [Rows.netPlacesSpec]
  obtain ⟨P, A1, A2, A3, A4, A5, A6, n1, c1, n2, c2, n3, c3, n4, c4, n5, c5, n6, c6, N, rfl, hN⟩ := net_open (hval 0 26 v0 rfl rfl) h0
  obtain ⟨by', rfl⟩ := Go.WideShapes.okWide_int Tryd.underlying3 (hval 1 3 v1 rfl rfl)
  obtain ⟨x2, y2, z2, rfl⟩ := Go.WideShapes.okWide_slice Tryd.underlying24 (hval 2 24 v2 rfl rfl)
  obtain ⟨x3, y3, z3, rfl⟩ := Go.WideShapes.okWide_slice Tryd.underlying58 (hval 3 58 v3 rfl rfl)
  obtain ⟨f1, hf1⟩ := h1
  obtain ⟨f2, hf2⟩ := h2
  obtain ⟨f3, hf3⟩ := h3
  obtain ⟨B2, m2, e2', X, hv2, _, hX⟩ := steps_open hf2
  obtain ⟨B3, m3, e3', R, hv3, hR⟩ := rows_open hf3
  cases hv2
  cases hv3
  have hw : Calls Tryd.prog 7 #[.agg #[.int .i64 P, .slice A1 n1 c1, .slice A2 n2 c2, .slice A3 n3 c3, .slice A4 n4 c4, .slice A5 n5 c5, .slice A6 n6 c6], .int .i64 by', .slice x2 y2 z2, .slice x3 y3 z3] W fun r w' => r = .returned (.bool true) ∧ Below W.heap.size W w' := by
    by_cases hh : heldB P n1 n2 n3 n4 n5 n6 = true ∧ y2 ≤ 20 ∧ fewB R = true
    · have hb := hh.1
      unfold heldB at hb
      rw [decide_eq_true_iff] at hb
      obtain ⟨b0, b1, b2, b3, b4, b5, b6⟩ := hb
      exact places_yes P A1 A2 A3 A4 A5 A6 n1 c1 n2 c2 n3 c3 n4 c4 n5 c5 n6 c6 N by' x2 y2 z2 X x3 y3 z3 R W (hN b0 b1 b2 b3 b4 b5 b6) hg hX hR hh.1 hh.2.1 hh.2.2
    · exact places_no P A1 A2 A3 A4 A5 A6 n1 c1 n2 c2 n3 c3 n4 c4 n5 c5 n6 c6 by' x2 y2 z2 x3 y3 z3 R W hR hh
  refine hw.mono fun e W' ⟨he, hb⟩ => ?_
  subst he
  rw [List.append_assoc, List.append_assoc] at hW'
  refine ⟨_, rfl, _, _, _, [], p0 ++ (p1 ++ (p2 ++ p3)), [], hW', ?_, ?_, ?_, ?_, fun h => by cases h⟩
  · rw [e1]; exact trodAll_mk1 (shut_bool Tryd.underlying4 true)
  · rw [e1]; exact trodAll_mk4 (Below.trod (by kernel_rfl) (by kernel_rfl) (of_decide_eq_true (by kernel_rfl)) h0 hb (fun x hx => by simpa using hW'.lt x (by simp [hx]))) (Below.trod (by kernel_rfl) (by kernel_rfl) (of_decide_eq_true (by kernel_rfl)) ⟨f1, hf1⟩ hb (fun x hx => by simpa using hW'.lt x (by simp [hx]))) (Below.trod (by kernel_rfl) (by kernel_rfl) (of_decide_eq_true (by kernel_rfl)) ⟨f2, hf2⟩ hb (fun x hx => by simpa using hW'.lt x (by simp [hx]))) (Below.trod (by kernel_rfl) (by kernel_rfl) (of_decide_eq_true (by kernel_rfl)) ⟨f3, hf3⟩ hb (fun x hx => by simpa using hW'.lt x (by simp [hx])))
  · rw [e1]; rfl
  · exact hb.frame _

theorem holds : Rows.NetPlacesSaid :=
  OpenClaim.holds_of_wide 7 Tryd.f7 rfl rfl rfl rfl rfl rfl rfl ⟨rfl, rfl, rfl, rfl, rfl⟩ rfl rfl rfl rfl rfl (by kernel_rfl) Tryd.func7 (by kernel_rfl)
    (of_decide_eq_true (by kernel_rfl)) (by unfold Func.isWrapper; rw [if_neg (of_decide_eq_false (by kernel_rfl))]; exact ⟨rfl, rfl⟩)
    (fun os started H enc _ => lifted os started H enc)

/-- ████ THE STATEMENT ████ -/
theorem proved : Rows.NetPlacesCardSaid :=
  Claim7.holds_tied_plain_at .later [] [.handle] true (true, "d319b22cd1062fa812d101cf786b15cef70c8bcd07d5ab8cccfb18a4d3284dee") true
    holds (fun _ h => by cases h) (by kernel_rfl) (fun _ h => by cases h) netPlaces_row_tie rfl ⟨rfl, rfl⟩ (by kernel_rfl) rfl
    (fun f fn hf hfn => by
      obtain rfl : f = 7 := Option.some.inj ((show Tryd.prog.funcNamed "clepsydra/clepsydrakeep.NetPlaces" = some 7 by kernel_rfl).symm.trans hf) |>.symm
      obtain rfl : fn = Tryd.f7 := (Option.some.inj (Tryd.func7.symm.trans hfn)).symm
      exact ⟨by kernel_rfl, fun j t ht => by
        rw [Tryd.params7] at ht
        have h3 : t = 26 ∨ t = 3 ∨ t = 24 ∨ t = 58 := by
          rcases j with _ | _ | _ | _ | j
          · left; simpa using ht.symm
          · right; left; simpa using ht.symm
          · right; right; left; simpa using ht.symm
          · right; right; right; simpa using ht.symm
          · simp at ht
        rcases h3 with rfl | rfl | rfl | rfl
        · exact (show Tryd.prog.wantsStandIn 26 = false by kernel_rfl)
        · exact (show Tryd.prog.wantsStandIn 3 = false by kernel_rfl)
        · exact (show Tryd.prog.wantsStandIn 24 = false by kernel_rfl)
        · exact (show Tryd.prog.wantsStandIn 58 = false by kernel_rfl)⟩)
    (by kernel_rfl)
#print axioms proved
end Go.Proofs.YtgglbjniclkkpaaDoor.netPlaces

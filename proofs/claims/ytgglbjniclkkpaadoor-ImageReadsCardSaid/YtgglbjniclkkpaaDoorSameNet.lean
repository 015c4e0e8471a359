/-
  The law's sameNet, at two codes that are the same.
-/
import Derived.Test.YtgglbjniclkkpaaDoorSameNums
import Derived.Test.YtgglbjniclkkpaaDoorCheckL
import Derived.LaidEql
import Derived.BigQuiet
namespace Go.Proofs.YtgglbjniclkkpaaDoor
open Go.RowKit
set_option linter.unusedVariables false

set_option maxRecDepth 100000 in
set_option maxHeartbeats 4000000 in
theorem sameNet_one (P : Int) (A1 A2 A3 A4 A5 A6 D1 D2 D3 D4 D5 D6 : Option Addr) (n1 c1 n2 c2 n3 c3 n4 c4 n5 c5 n6 c6 e1 e2 e3 e4 e5 e6 : Nat) (N : NetP) (w : World) (h : NetAtL w P A1 A2 A3 A4 A5 A6 n1 c1 n2 c2 n3 c3 n4 c4 n5 c5 n6 c6 N) (h' : NetAtL w P D1 D2 D3 D4 D5 D6 n1 e1 n2 e2 n3 e3 n4 e4 n5 e5 n6 e6 N) :
    Calls Tryd.prog 20 #[.agg #[.int .i64 P, .slice A1 n1 c1, .slice A2 n2 c2, .slice A3 n3 c3, .slice A4 n4 c4, .slice A5 n5 c5, .slice A6 n6 c6], .agg #[.int .i64 P, .slice D1 n1 e1, .slice D2 n2 e2, .slice D3 n3 e3, .slice D4 n4 e4, .slice D5 n5 e5, .slice D6 n6 e6]] w fun r w' => r = .returned (.bool true) ∧ Below w.heap.size w w' := by
  have hb6 := h.b6
  have H := Lib.hid h
  have H' := Lib.hid h'
  clear h h'
  have hw := (Below.refl w.heap.size w).alloc (Nat.le_refl _) (Obj.cells #[.int .i64 P, .slice A1 n1 c1, .slice A2 n2 c2, .slice A3 n3 c3, .slice A4 n4 c4, .slice A5 n5 c5, .slice A6 n6 c6] 26)
  have hw2 := hw.alloc (by simp) (Obj.cells #[.int .i64 P, .slice D1 n1 e1, .slice D2 n2 e2, .slice D3 n3 e3, .slice D4 n4 e4, .slice D5 n5 e5, .slice D6 n6 e6] 26)
  have HW := Lib.hid hw
  have HW2 := Lib.hid hw2
  have HN := Lib.hid (fun w2 => ncells P A1 A2 A3 A4 A5 A6 n1 c1 n2 c2 n3 c3 n4 c4 n5 c5 n6 c6 w w2)
  have HM := Lib.hid (fun w2 => ncells P D1 D2 D3 D4 D5 D6 n1 e1 n2 e2 n3 e3 n4 e4 n5 e5 n6 e6 (w.alloc (.cells #[.int .i64 P, .slice A1 n1 c1, .slice A2 n2 c2, .slice A3 n3 c3, .slice A4 n4 c4, .slice A5 n5 c5, .slice A6 n6 c6] 26)) w2)
  clear hw hw2
  go_enter Tryd.func20, Tryd.ntmps20
  go_wp2_with fail
  have hb0 := Below.refl ((w.alloc (.cells #[.int .i64 P, .slice A1 n1 c1, .slice A2 n2 c2, .slice A3 n3 c3, .slice A4 n4 c4, .slice A5 n5 c5, .slice A6 n6 c6] 26)).alloc (.cells #[.int .i64 P, .slice D1 n1 e1, .slice D2 n2 e2, .slice D3 n3 e3, .slice D4 n4 e4, .slice D5 n5 e5, .slice D6 n6 e6] 26)).heap.size ((w.alloc (.cells #[.int .i64 P, .slice A1 n1 c1, .slice A2 n2 c2, .slice A3 n3 c3, .slice A4 n4 c4, .slice A5 n5 c5, .slice A6 n6 c6] 26)).alloc (.cells #[.int .i64 P, .slice D1 n1 e1, .slice D2 n2 e2, .slice D3 n3 e3, .slice D4 n4 e4, .slice D5 n5 e5, .slice D6 n6 e6] 26))
  have B0 := Lib.hid hb0
  clear hb0
  refine (sameNumsL_any A1 D1 n1 c1 n1 e1 N.first N.first _ (H.out.i1.up (HW2.out.trans (B0.out.mono HW2.out.size))) (H'.out.i1.up (HW2.out.trans (B0.out.mono HW2.out.size))) (by have := H.out.b1; omega)).mono ?_
  rintro r w1 ⟨rfl, hb⟩
  rw [sameB_refl]
  have B1 := Lib.hid (below_up B0.out hb)
  clear hb
  obtain ⟨z0, z1, z2, z3, z4, z5, z6⟩ := HN.out w1 (below_up ((Below.refl _ _).alloc (Nat.le_refl _) _) B1.out)
  obtain ⟨y0, y1, y2, y3, y4, y5, y6⟩ := HM.out w1 B1.out
  rw [show (w.alloc (.cells #[.int .i64 P, .slice A1 n1 c1, .slice A2 n2 c2, .slice A3 n3 c3, .slice A4 n4 c4, .slice A5 n5 c5, .slice A6 n6 c6] 26)).heap.size = w.heap.size + 1 by simp] at y0 y1 y2 y3 y4 y5 y6
  go_wp2_with fail
  refine (sameInts_any A2 D2 n2 c2 n2 e2 N.ins N.ins _ (H.out.i2.up (HW2.out.trans (B1.out.mono HW2.out.size))) (H'.out.i2.up (HW2.out.trans (B1.out.mono HW2.out.size))) (by have := H.out.b2; omega)).mono ?_
  rintro r w2 ⟨rfl, hb⟩
  rw [sameB_refl]
  have B2 := Lib.hid (below_up B1.out hb)
  clear hb z0 z1 z2 z3 z4 z5 z6 y0 y1 y2 y3 y4 y5 y6
  obtain ⟨z0, z1, z2, z3, z4, z5, z6⟩ := HN.out w2 (below_up ((Below.refl _ _).alloc (Nat.le_refl _) _) B2.out)
  obtain ⟨y0, y1, y2, y3, y4, y5, y6⟩ := HM.out w2 B2.out
  rw [show (w.alloc (.cells #[.int .i64 P, .slice A1 n1 c1, .slice A2 n2 c2, .slice A3 n3 c3, .slice A4 n4 c4, .slice A5 n5 c5, .slice A6 n6 c6] 26)).heap.size = w.heap.size + 1 by simp] at y0 y1 y2 y3 y4 y5 y6
  go_wp2_with fail
  refine (sameInts_any A3 D3 n3 c3 n3 e3 N.outs N.outs _ (H.out.i3.up (HW2.out.trans (B2.out.mono HW2.out.size))) (H'.out.i3.up (HW2.out.trans (B2.out.mono HW2.out.size))) (by have := H.out.b3; omega)).mono ?_
  rintro r w3 ⟨rfl, hb⟩
  rw [sameB_refl]
  have B3 := Lib.hid (below_up B2.out hb)
  clear hb z0 z1 z2 z3 z4 z5 z6 y0 y1 y2 y3 y4 y5 y6
  obtain ⟨z0, z1, z2, z3, z4, z5, z6⟩ := HN.out w3 (below_up ((Below.refl _ _).alloc (Nat.le_refl _) _) B3.out)
  obtain ⟨y0, y1, y2, y3, y4, y5, y6⟩ := HM.out w3 B3.out
  rw [show (w.alloc (.cells #[.int .i64 P, .slice A1 n1 c1, .slice A2 n2 c2, .slice A3 n3 c3, .slice A4 n4 c4, .slice A5 n5 c5, .slice A6 n6 c6] 26)).heap.size = w.heap.size + 1 by simp] at y0 y1 y2 y3 y4 y5 y6
  go_wp2_with fail
  refine (sameInts_any A4 D4 n4 c4 n4 e4 N.keeps N.keeps _ (H.out.i4.up (HW2.out.trans (B3.out.mono HW2.out.size))) (H'.out.i4.up (HW2.out.trans (B3.out.mono HW2.out.size))) (by have := H.out.b4; omega)).mono ?_
  rintro r w4 ⟨rfl, hb⟩
  rw [sameB_refl]
  have B4 := Lib.hid (below_up B3.out hb)
  clear hb z0 z1 z2 z3 z4 z5 z6 y0 y1 y2 y3 y4 y5 y6
  obtain ⟨z0, z1, z2, z3, z4, z5, z6⟩ := HN.out w4 (below_up ((Below.refl _ _).alloc (Nat.le_refl _) _) B4.out)
  obtain ⟨y0, y1, y2, y3, y4, y5, y6⟩ := HM.out w4 B4.out
  rw [show (w.alloc (.cells #[.int .i64 P, .slice A1 n1 c1, .slice A2 n2 c2, .slice A3 n3 c3, .slice A4 n4 c4, .slice A5 n5 c5, .slice A6 n6 c6] 26)).heap.size = w.heap.size + 1 by simp] at y0 y1 y2 y3 y4 y5 y6
  go_wp2_with fail
  refine (sameNumsL_any A5 D5 n5 c5 n5 e5 N.nums N.nums _ (H.out.i5.up (HW2.out.trans (B4.out.mono HW2.out.size))) (H'.out.i5.up (HW2.out.trans (B4.out.mono HW2.out.size))) (by have := H.out.b5; omega)).mono ?_
  rintro r w5 ⟨rfl, hb⟩
  rw [sameB_refl]
  have B5 := Lib.hid (below_up B4.out hb)
  clear hb z0 z1 z2 z3 z4 z5 z6 y0 y1 y2 y3 y4 y5 y6
  obtain ⟨z0, z1, z2, z3, z4, z5, z6⟩ := HN.out w5 (below_up ((Below.refl _ _).alloc (Nat.le_refl _) _) B5.out)
  obtain ⟨y0, y1, y2, y3, y4, y5, y6⟩ := HM.out w5 B5.out
  rw [show (w.alloc (.cells #[.int .i64 P, .slice A1 n1 c1, .slice A2 n2 c2, .slice A3 n3 c3, .slice A4 n4 c4, .slice A5 n5 c5, .slice A6 n6 c6] 26)).heap.size = w.heap.size + 1 by simp] at y0 y1 y2 y3 y4 y5 y6
  go_wp2_with fail
  go_loopw [5] (fun i wr => ∃ k : Nat, k ≤ n6 ∧ i = .int .i64 k ∧ Below w5.heap.size w5 wr) (fun i _ => n6 - (intOf i).toNat)
  case atStart => exact ⟨0, Nat.zero_le _, rfl, Below.refl _ _⟩
  case round =>
    obtain ⟨k, hk, rfl, hb⟩ := hrel
    have B6 := Lib.hid (below_up B5.out hb)
    have HBR := Lib.hid hb
    clear hb z0 z1 z2 z3 z4 z5 z6 y0 y1 y2 y3 y4 y5 y6
    obtain ⟨z0, z1, z2, z3, z4, z5, z6⟩ := HN.out wr (below_up ((Below.refl _ _).alloc (Nat.le_refl _) _) B6.out)
    obtain ⟨y0, y1, y2, y3, y4, y5, y6⟩ := HM.out wr B6.out
    rw [show (w.alloc (.cells #[.int .i64 P, .slice A1 n1 c1, .slice A2 n2 c2, .slice A3 n3 c3, .slice A4 n4 c4, .slice A5 n5 c5, .slice A6 n6 c6] 26)).heap.size = w.heap.size + 1 by simp] at y0 y1 y2 y3 y4 y5 y6
    by_cases hlt : k < n6
    · have I := H.out.i6.up (HW2.out.trans (B6.out.mono HW2.out.size))
      have I' := H'.out.i6.up (HW2.out.trans (B6.out.mono HW2.out.size))
      obtain ⟨b, o, rfl, hc⟩ := I.2 (by omega)
      obtain ⟨b', o', rfl, hc'⟩ := I'.2 (by omega)
      obtain ⟨s, hs0, hs1, hs2, hs3, hs4, hs5⟩ := hc k hlt
      obtain ⟨s', ht0, ht1, ht2, ht3, ht4, ht5⟩ := hc' k hlt
      obtain rfl : s = s' := Option.some.inj (hs0.symm.trans ht0)
      clear hc hc' I I' hs0 ht0
      have i0 : (0 : Int) ≤ (k : Int) := by omega
      have i1 : (k : Int) < (n6 : Int) := by omega
      go_wp2
      go_quiet (fail)
      go_wp2
      go_roundw
      case rel => exact ⟨k + 1, by omega, by go_num, HBR.out.trans ⟨rfl, rfl, rfl, Nat.le_refl _, fun _ _ => rfl⟩⟩
      case measure => simp [intOf]; omega
    · go_wp2
      go_ret
      exact ⟨rfl, HW2.out.trans (B6.out.mono HW2.out.size)⟩
theorem sameNet_any (P P' : Int) (A1 A2 A3 A4 A5 A6 D1 D2 D3 D4 D5 D6 : Option Addr) (n1 c1 n2 c2 n3 c3 n4 c4 n5 c5 n6 c6 m1 e1 m2 e2 m3 e3 m4 e4 m5 e5 m6 e6 : Nat) (N : NetP) (w : World) (h : NetAtL w P A1 A2 A3 A4 A5 A6 n1 c1 n2 c2 n3 c3 n4 c4 n5 c5 n6 c6 N) (h' : NetAtL w P' D1 D2 D3 D4 D5 D6 m1 e1 m2 e2 m3 e3 m4 e4 m5 e5 m6 e6 N) :
    Calls Tryd.prog 20 #[.agg #[.int .i64 P, .slice A1 n1 c1, .slice A2 n2 c2, .slice A3 n3 c3, .slice A4 n4 c4, .slice A5 n5 c5, .slice A6 n6 c6], .agg #[.int .i64 P', .slice D1 m1 e1, .slice D2 m2 e2, .slice D3 m3 e3, .slice D4 m4 e4, .slice D5 m5 e5, .slice D6 m6 e6]] w fun r w' => r = .returned (.bool true) ∧ Below w.heap.size w w' := by
  obtain rfl := h.hp.symm.trans h'.hp
  obtain rfl := h.i1.1.symm.trans h'.i1.1
  obtain rfl := h.i2.1.symm.trans h'.i2.1
  obtain rfl := h.i3.1.symm.trans h'.i3.1
  obtain rfl := h.i4.1.symm.trans h'.i4.1
  obtain rfl := h.i5.1.symm.trans h'.i5.1
  obtain rfl := h.i6.1.symm.trans h'.i6.1
  exact sameNet_one _ _ _ _ _ _ _ _ _ _ _ _ _ _ _ _ _ _ _ _ _ _ _ _ _ _ _ _ _ _ _ N w h h'
end Go.Proofs.YtgglbjniclkkpaaDoor

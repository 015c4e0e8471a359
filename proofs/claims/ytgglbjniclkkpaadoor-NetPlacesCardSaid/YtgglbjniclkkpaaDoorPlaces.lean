/-
  The law NetPlaces: the walk.
-/
import Derived.Test.YtgglbjniclkkpaaDoorPlacesSt
import Derived.Test.YtgglbjniclkkpaaDoorForgets
namespace Go.Proofs.YtgglbjniclkkpaaDoor
open Go.RowKit
set_option linter.unusedVariables false

set_option maxRecDepth 100000 in
set_option maxHeartbeats 4000000 in
theorem places_no (P : Int) (A1 A2 A3 A4 A5 A6 : Option Addr) (n1 c1 n2 c2 n3 c3 n4 c4 n5 c5 n6 c6 : Nat) (by' : Int) (AX : Option Addr) (nx cx : Nat) (B : Option Addr) (ni ci : Nat) (R : List (List Int)) (w : World) (hB : RowsAt w B ni R) (hh : ¬ (heldB P n1 n2 n3 n4 n5 n6 = true ∧ nx ≤ 20 ∧ fewB R = true)) :
    Calls Tryd.prog 7 #[.agg #[.int .i64 P, .slice A1 n1 c1, .slice A2 n2 c2, .slice A3 n3 c3, .slice A4 n4 c4, .slice A5 n5 c5, .slice A6 n6 c6], .int .i64 by', .slice AX nx cx, .slice B ni ci] w fun r w' => r = .returned (.bool true) ∧ Below w.heap.size w w' := by
  have HH := Lib.hid (heldK_any P A1 A2 A3 A4 A5 A6 n1 c1 n2 c2 n3 c3 n4 c4 n5 c5 n6 c6 ((w.alloc (.cells #[.int .i64 P, .slice A1 n1 c1, .slice A2 n2 c2, .slice A3 n3 c3, .slice A4 n4 c4, .slice A5 n5 c5, .slice A6 n6 c6] 26)).alloc (.cells #[.int .i64 by'] 3)))
  have HB := Lib.hid (((Below.refl w.heap.size w).alloc (Nat.le_refl _) (Obj.cells #[.int .i64 P, .slice A1 n1 c1, .slice A2 n2 c2, .slice A3 n3 c3, .slice A4 n4 c4, .slice A5 n5 c5, .slice A6 n6 c6] 26)).alloc (by simp) (Obj.cells #[.int .i64 by'] 3))
  have HR := Lib.hid hB
  by_cases h1 : heldB P n1 n2 n3 n4 n5 n6 = true
  · rw [h1] at HH
    by_cases h2 : nx ≤ 20
    · have h2' : decide ((20 : Int) < (nx : Int)) = false := by simp; omega
      have h3 : fewB R = false := by
        cases h : fewB R
        · rfl
        · exact absurd ⟨h1, h2, h⟩ hh
      clear hh h1 h2 hB
      go_enter Tryd.func7, Tryd.ntmps7
      go_wp2_with (go_at_call 21; refine HH.out.mono ?_; rintro r w1 ⟨rfl, hb1⟩)
      refine (fewK_any B ni ci R w1 (HR.out.up (below_up HB.out hb1))).mono ?_
      rw [h3]
      rintro r w2 ⟨rfl, hb2⟩
      have BB := Lib.hid (below_up HB.out (below_up hb1 hb2))
      clear hb1 hb2
      go_wp2_with fail
      go_ret
      exact ⟨rfl, BB.out⟩
    · have h2' : (20 : Int) < (nx : Int) := by omega
      clear hh h1 h2 hB
      go_enter Tryd.func7, Tryd.ntmps7
      go_wp2_with (go_at_call 21; refine HH.out.mono ?_; rintro r w1 ⟨rfl, hb1⟩)
      go_ret
      exact ⟨rfl, below_up HB.out hb1⟩
  · rw [Bool.eq_false_iff.2 h1] at HH
    clear hh h1 hB
    go_enter Tryd.func7, Tryd.ntmps7
    go_wp2_with (go_at_call 21; refine HH.out.mono ?_; rintro r w1 ⟨rfl, hb1⟩)
    go_ret
    exact ⟨rfl, below_up HB.out hb1⟩
set_option maxRecDepth 100000 in
set_option maxHeartbeats 16000000 in
theorem places_yes (P : Int) (A1 A2 A3 A4 A5 A6 : Option Addr) (n1 c1 n2 c2 n3 c3 n4 c4 n5 c5 n6 c6 : Nat) (N : NetP) (by' : Int) (AX : Option Addr) (nx cx : Nat) (X : List Stp) (B : Option Addr) (ni ci : Nat) (R : List (List Int)) (w : World) (h : NetAt w P A1 A2 A3 A4 A5 A6 n1 c1 n2 c2 n3 c3 n4 c4 n5 c5 n6 c6 N) (hg : HandleAt w) (hX : StepsAt w AX nx X) (hB : RowsAt w B ni R) (hh : heldB P n1 n2 n3 n4 n5 n6 = true) (hnx : nx ≤ 20) (hf : fewB R = true) :
    Calls Tryd.prog 7 #[.agg #[.int .i64 P, .slice A1 n1 c1, .slice A2 n2 c2, .slice A3 n3 c3, .slice A4 n4 c4, .slice A5 n5 c5, .slice A6 n6 c6], .int .i64 by', .slice AX nx cx, .slice B ni ci] w fun r w' => r = .returned (.bool true) ∧ Below w.heap.size w w' := by
  have HH := Lib.hid (heldK_any P A1 A2 A3 A4 A5 A6 n1 c1 n2 c2 n3 c3 n4 c4 n5 c5 n6 c6 ((w.alloc (.cells #[.int .i64 P, .slice A1 n1 c1, .slice A2 n2 c2, .slice A3 n3 c3, .slice A4 n4 c4, .slice A5 n5 c5, .slice A6 n6 c6] 26)).alloc (.cells #[.int .i64 by'] 3)))
  rw [hh] at HH
  have HB := Lib.hid (((Below.refl w.heap.size w).alloc (Nat.le_refl _) (Obj.cells #[.int .i64 P, .slice A1 n1 c1, .slice A2 n2 c2, .slice A3 n3 c3, .slice A4 n4 c4, .slice A5 n5 c5, .slice A6 n6 c6] 26)).alloc (by simp) (Obj.cells #[.int .i64 by'] 3))
  have HX4 := Lib.hid (heap_alloc2_old w (Obj.cells #[.int .i64 P, .slice A1 n1 c1, .slice A2 n2 c2, .slice A3 n3 c3, .slice A4 n4 c4, .slice A5 n5 c5, .slice A6 n6 c6] 26) (Obj.cells #[.int .i64 by'] 3))
  have HX5 := Lib.hid (heap_alloc2_new w (Obj.cells #[.int .i64 P, .slice A1 n1 c1, .slice A2 n2 c2, .slice A3 n3 c3, .slice A4 n4 c4, .slice A5 n5 c5, .slice A6 n6 c6] 26) (Obj.cells #[.int .i64 by'] 3))
  have h2' : decide ((20 : Int) < (nx : Int)) = false := by simp; omega
  have b3 := h.b3
  have H := Lib.hid h
  have HG := Lib.hid hg
  have HX := Lib.hid hX
  have HR := Lib.hid hB
  have FW := Lib.hid hf
  clear h hg hX hB hh hf
  obtain ⟨g4, hg4⟩ : ∃ g, g = w.heap.size := ⟨_, rfl⟩
  obtain ⟨g5, hg5⟩ : ∃ g, g = w.heap.size + 1 := ⟨_, rfl⟩
  rw [← hg4] at HX4
  rw [← hg5] at HX5
  have G4 := Lib.hid hg4
  have G5 := Lib.hid hg5
  go_enter Tryd.func7, Tryd.ntmps7
  go_wp2_with (go_at_call 21; refine HH.out.mono ?_; rintro r w1 ⟨rfl, hb1⟩)
  refine (fewK_any B ni ci R w1 (HR.out.up (below_up HB.out hb1))).mono ?_
  rw [FW.out]
  rintro r w2 ⟨rfl, hb2⟩
  go_wp2_with fail
  refine (coded_any w2 (HG.out.up (below_up HB.out (below_up hb1 hb2)))).mono ?_
  rintro r w3 ⟨rfl, hb3⟩
  rw [← hg5, ← hg4]
  have hb03 := below_up hb1 (below_up hb2 hb3)
  have B3 := Lib.hid (below_up HB.out hb03)
  have X4 := Lib.hid (grown_blk (grown_below none hb03) HX4.out (by simp))
  have X5 := Lib.hid (grown_blk (grown_below none hb03) HX5.out (by simp))
  obtain ⟨r0, r1, r2, r3, r4, r5, r6⟩ := net_cells X4.out
  clear hb1 hb2 hb3 hb03 HH HB HX4 HX5 hg4 hg5
  have N3 := Lib.hid (H.out.up B3.out)
  by_cases hj : (judgeV N).1 = 0
  · have JJ := Lib.hid (judge_ok hj)
    obtain ⟨hpl, hgood⟩ := good_net JJ.out
    have l1 := N3.out.i1.1
    have hP : P = (n1 : Int) := by rw [← N3.out.hp, hpl, l1]
    subst hP
    rw [l1] at hgood
    have GD := Lib.hid hgood
    have hb1 := N3.out.b1
    clear hj hpl hgood l1
    go_wp2_with fail
    refine (tells_ok A1 A2 A3 A4 A5 A6 n1 c1 n2 c2 n3 c3 n4 c4 n5 c5 n6 c6 N B ni ci R w3 N3.out.toL (HG.out.up B3.out) JJ.out (HR.out.up B3.out) FW.out b3).mono ?_
    rintro r w4 ⟨OA, ko, oc, hko, rfl, ho, hb4⟩
    have O4 := Lib.hid ho
    have B34 := Lib.hid hb4
    have X4' := Lib.hid (grown_blk (grown_below none hb4) X4.out (by simp))
    have X5' := Lib.hid (grown_blk (grown_below none hb4) X5.out (by simp))
    have LT5 : Hid (g5 < w3.heap.size) := Lib.hid (lt_of_block X5.out)
    clear r0 r1 r2 r3 r4 r5 r6 ho hb4 X4 X5
    obtain ⟨r0, r1, r2, r3, r4, r5, r6⟩ := net_cells X4'.out
    by_cases hp0 : n1 = 0
    · subst hp0
      go_wp2_with fail
      go_ret
      exact ⟨rfl, B3.out.trans (B34.out.mono B3.out.size)⟩
    · have hp1 : ((n1 : Int) == 0) = false := by simp; omega
      have e5 : w4.cell? ⟨g5, 0, none⟩ = some (.int .i64 by') := by simp [World.cell?, X5'.out]
      have f5 := blk_free X5'.out
      go_wp2_with fail
      refine (pick_kept by' n1 (by omega) (by omega) w4).mono ?_
      rintro r w5 ⟨bq, hbq, rfl, hw5⟩
      obtain rfl : w4 = w5 := hw5
      go_upto_region 11 with fail
      have hn1 : n1 ≤ 4000 := by omega
      have hbn2 : n2 ≤ 4000 := by have := N3.out.b2; omega
      have hbn3 : n3 ≤ 4000 := by omega
      have hbn4 : n4 ≤ 4000 := by have := N3.out.b4; omega
      obtain ⟨g11, hg11⟩ : ∃ g, g = w4.heap.size := ⟨_, rfl⟩
      obtain ⟨W, hW⟩ : ∃ X, X = (w4.setCell ⟨g5, 0, none⟩ (.int .i64 bq)).alloc (.cells #[.func (.func 30) #[] #[.pointer (some ⟨g5, 0, none⟩), .pointer (some ⟨g4, 0, none⟩)]] 63) := ⟨_, rfl⟩
      have BW : Hid (Below w.heap.size w W) := Lib.hid (by rw [hW]; exact (below_grow (B3.out.trans (B34.out.mono B3.out.size)) (set_grown w4 g5 0 (.int .i64 bq)) (by rw [G5.out]; omega)).alloc (below_grow (B3.out.trans (B34.out.mono B3.out.size)) (set_grown w4 g5 0 (.int .i64 bq)) (by rw [G5.out]; omega)).size _)
      have Y4 : Hid (W.heap[g4]? = some (.cells #[.int .i64 n1, .slice A1 n1 c1, .slice A2 n2 c2, .slice A3 n3 c3, .slice A4 n4 c4, .slice A5 n5 c5, .slice A6 n6 c6] 26 (0, 0))) := Lib.hid (by rw [hW]; exact (grown_blk (World.grownBy_alloc _ _ none) (grown_blk (set_grown w4 g5 0 (.int .i64 bq)) X4'.out (by rw [G4.out, G5.out]; simp)) (by simp)))
      have Y5 : Hid (W.heap[g5]? = some (.cells #[.int .i64 bq] 3 (0, 0))) := Lib.hid (by rw [hW]; exact (grown_blk (World.grownBy_alloc _ _ none) (set_block (i := 0) (v := .int .i64 bq) X5'.out) (by simp)))
      have Y11 : Hid (W.heap[g11]? = some (.cells #[.func (.func 30) #[] #[.pointer (some ⟨g5, 0, none⟩), .pointer (some ⟨g4, 0, none⟩)]] 63 (0, 0))) := Lib.hid (by
        rw [hW, hg11]
        have h := heap_alloc_new (w4.setCell ⟨g5, 0, none⟩ (.int .i64 bq)) (.cells #[.func (.func 30) #[] #[.pointer (some ⟨g5, 0, none⟩), .pointer (some ⟨g4, 0, none⟩)]] 63)
        simpa using h)
      have OW : Hid (W.ownsRow w3.heap.size 2 1 (.slice OA ko oc) ko ((runsV N (kpV N.keeps (List.replicate n1 false)) R N.first []).map (Value.int .i64))) := Lib.hid (by rw [hW]; exact (row_kept O4.out (set_grown w4 g5 0 (.int .i64 bq)) (fun x e => by cases e; exact LT5.out)).alloc _)
      have H5 : Hid (W.cell? ⟨g5, 0, none⟩ = some (.int .i64 bq)) := Lib.hid (by simp [World.cell?, Y5.out])
      have H4 : Hid (W.cell? ⟨g4, 0, none⟩ = some (.int .i64 n1)) := Lib.hid (by simp [World.cell?, Y4.out])
      have H11 : Hid (W.cell? ⟨g11, 0, none⟩ = some (.func (.func 30) #[] #[.pointer (some ⟨g5, 0, none⟩), .pointer (some ⟨g4, 0, none⟩)])) := Lib.hid (by simp [World.cell?, Y11.out])
      rw [← hg11, ← hW]
      have NW := Lib.hid (H.out.up BW.out)
      have XW := Lib.hid (HX.out.up BW.out)
      have RW := Lib.hid (HR.out.up BW.out)
      have GW := Lib.hid (HG.out.up BW.out)
      clear r0 r1 r2 r3 r4 r5 r6 e5 f5 hg11 hW
      obtain ⟨r0, r1, r2, r3, r4, r5, r6⟩ := net_cells Y4.out
      obtain ⟨i0, hi0, hz0, hz1, hz2⟩ := info_parts infoN
      obtain ⟨FO, hFO⟩ : ∃ o : Obj, o = (.cells (Array.replicate (n1 + 1) (Value.int .i64 0)) 2) := ⟨_, rfl⟩
      have HFO := Lib.hid hFO
      clear hFO
      have hmk : ∀ X : World, (Instr.makeSlice 22 (.int .i64 ((n1 : Int) + 1)) (.int .i64 ((n1 : Int) + 1))).run Tryd.prog X = .ok (.slice (some ⟨X.heap.size, 0, none⟩) (n1 + 1) (n1 + 1)) (X.alloc FO) := fun X => by
        rw [HFO.out]
        have hr := run_make (P := Tryd.prog) X 22 2 i0 (.int .i64 0) Tryd.underlying22 hi0 hz0 .i64 .i64 ((n1 + 1 : Nat) : Int) ((n1 + 1 : Nat) : Int) (by omega) (Int.le_refl _) (by rw [hz2]; omega) (by omega)
        rw [show (n1 : Int) + 1 = ((n1 + 1 : Nat) : Int) by omega, hr]
        simp only [Int.toNat_natCast, hz1]
        rw [show (Value.int .i64 0).cells = #[Value.int .i64 0] from rfl, made_ints]
      have hwr : IntKind.i64.wrap ((n1 : Int) + 1) = (n1 : Int) + 1 := by rw [IntKind.wrap_i64]; omega
      have hwr2 : wrap64 ((n1 : Int) + 1) = (n1 : Int) + 1 := by unfold wrap64; omega
      have K0 := Lib.hid (KB.nil W)
      have MKS : Hid (∀ X, Below W.heap.size W X → X.cell? ⟨g4, 0, none⟩ = some (.int .i64 n1) ∧ X.cell? ⟨g4, 1, none⟩ = some (.slice A1 n1 c1) ∧ X.cell? ⟨g4, 2, none⟩ = some (.slice A2 n2 c2) ∧ X.cell? ⟨g4, 3, none⟩ = some (.slice A3 n3 c3) ∧ X.cell? ⟨g4, 4, none⟩ = some (.slice A4 n4 c4) ∧ X.cell? ⟨g4, 5, none⟩ = some (.slice A5 n5 c5) ∧ X.cell? ⟨g4, 6, none⟩ = some (.slice A6 n6 c6) ∧ Below W.heap.size W X) := Lib.hid fun X h => keepN ⟨r0, r1, r2, r3, r4, r5, r6, Below.refl _ _⟩ h
      go_cut [13] from 13 to 75 (fun t13 wx => ∃ gF g13 D2 e2 D3 e3 D4 e4, t13 = .pointer (some ⟨g13, 0, none⟩) ∧ Hid (PSt W wx g13 gF #[.int .i64 ((n1 : Int) + 1), .slice (some ⟨gF, 0, none⟩) (n1 + 1) (n1 + 1), .slice D2 n2 e2, .slice D3 n3 e3, .slice D4 n4 e4, .slice A5 n5 c5, .slice none 0 0] (List.replicate (n1 + 1) 0) [⟨3, .slice D2 n2 e2, n2, (N.ins.map (toI n1 bq)).map (Value.int .i64)⟩, ⟨3, .slice D3 n3 e3, n3, (N.outs.map (toI n1 bq)).map (Value.int .i64)⟩, ⟨3, .slice D4 n4 e4, n4, (N.keeps.map (toI n1 bq)).map (Value.int .i64)⟩] (.slice none 0 0) 0 []))
      case first =>
        go_region_held3 (fun X => X.cell? ⟨g4, 0, none⟩ = some (.int .i64 n1) ∧ X.cell? ⟨g4, 1, none⟩ = some (.slice A1 n1 c1) ∧ X.cell? ⟨g4, 2, none⟩ = some (.slice A2 n2 c2) ∧ X.cell? ⟨g4, 3, none⟩ = some (.slice A3 n3 c3) ∧ X.cell? ⟨g4, 4, none⟩ = some (.slice A4 n4 c4) ∧ X.cell? ⟨g4, 5, none⟩ = some (.slice A5 n5 c5) ∧ X.cell? ⟨g4, 6, none⟩ = some (.slice A6 n6 c6) ∧ Below W.heap.size W X)
          ((first | (with_reducible exact MKS.out _ K0.out.drew.below) | (with_reducible exact MKS.out _ (K0.out.alloc _).drew.below) | (with_reducible exact MKS.out _ (K0.out.alloc2 _ _).drew.below) | (with_reducible exact MKS.out _ K8.out.below) | (with_reducible exact MKS.out _ (K8.out.alloc _).below) | (with_reducible exact MKS.out _ (K8.out.alloc2 _ _).below) | (with_reducible exact MKS.out _ K7.out.below) | (with_reducible exact MKS.out _ (K7.out.alloc _).below) | (with_reducible exact MKS.out _ (K7.out.alloc2 _ _).below) | (with_reducible exact MKS.out _ K6.out.below) | (with_reducible exact MKS.out _ (K6.out.alloc _).below) | (with_reducible exact MKS.out _ (K6.out.alloc2 _ _).below) | (with_reducible exact MKS.out _ (K8.out.sets List.mem_cons_self _ _ _ _ _ _ _)) | (with_reducible exact MKS.out _ (K8.out.sets (List.mem_cons_of_mem _ List.mem_cons_self) _ _ _ _ _ _ _)) | (with_reducible exact MKS.out _ ((K8.out.alloc _).sets List.mem_cons_self _ _ _ _ _ _ _)) | (with_reducible exact MKS.out _ ((K8.out.alloc _).sets (List.mem_cons_of_mem _ List.mem_cons_self) _ _ _ _ _ _ _)) | (with_reducible exact MKS.out _ ((K8.out.alloc2 _ _).sets List.mem_cons_self _ _ _ _ _ _ _)) | (with_reducible exact MKS.out _ ((K8.out.alloc2 _ _).sets (List.mem_cons_of_mem _ List.mem_cons_self) _ _ _ _ _ _ _)) | (with_reducible exact MKS.out _ (K8.out.setsA List.mem_cons_self _ _ _ _ _ _ _ _)) | (with_reducible exact MKS.out _ (K8.out.setsA (List.mem_cons_of_mem _ List.mem_cons_self) _ _ _ _ _ _ _ _)) | (with_reducible exact MKS.out _ ((K8.out.alloc _).setsA List.mem_cons_self _ _ _ _ _ _ _ _)) | (with_reducible exact MKS.out _ ((K8.out.alloc _).setsA (List.mem_cons_of_mem _ List.mem_cons_self) _ _ _ _ _ _ _ _)) | fail))
          (first | (go_at_call 31; (with_reducible refine (all_kept n1 bq g5 g4 g11 hn1 hbq A2 n2 c2 N.ins _ ?_ hbn2 GD.out.ins ?_ ?_ ?_).mono ?_); exact NW.out.i2.up (pickN (by assumption)); exact cell_up (pickN (by assumption)) H5.out; exact cell_up (pickN (by assumption)) H4.out; exact cell_up (pickN (by assumption)) H11.out; rintro r w6 ⟨D2, e2, rfl, ho, hb⟩; (first | (with_reducible have K6 := Lib.hid (KB.call hb ho K0.out.drew)) | (with_reducible have K6 := Lib.hid (KB.call hb ho (K0.out.alloc _).drew)) | (with_reducible have K6 := Lib.hid (KB.call hb ho (K0.out.alloc2 _ _).drew)) | fail); clear ho hb) | (go_at_call 31; (with_reducible refine (all_kept n1 bq g5 g4 g11 hn1 hbq A3 n3 c3 N.outs _ ?_ hbn3 GD.out.outs ?_ ?_ ?_).mono ?_); exact NW.out.i3.up (pickN (by assumption)); exact cell_up (pickN (by assumption)) H5.out; exact cell_up (pickN (by assumption)) H4.out; exact cell_up (pickN (by assumption)) H11.out; rintro r w7 ⟨D3, e3, rfl, ho, hb⟩; (first | (with_reducible have K7 := Lib.hid (KB.call hb ho K6.out)) | (with_reducible have K7 := Lib.hid (KB.call hb ho (K6.out.alloc _))) | (with_reducible have K7 := Lib.hid (KB.call hb ho (K6.out.alloc2 _ _))) | fail); clear ho hb) | (go_at_call 31; (with_reducible refine (all_kept n1 bq g5 g4 g11 hn1 hbq A4 n4 c4 N.keeps _ ?_ hbn4 GD.out.keeps ?_ ?_ ?_).mono ?_); exact NW.out.i4.up (pickN (by assumption)); exact cell_up (pickN (by assumption)) H5.out; exact cell_up (pickN (by assumption)) H4.out; exact cell_up (pickN (by assumption)) H11.out; rintro r w8 ⟨D4, e4, rfl, ho, hb⟩; (first | (with_reducible have K8 := Lib.hid (KB.call hb ho K7.out)) | (with_reducible have K8 := Lib.hid (KB.call hb ho (K7.out.alloc _))) | (with_reducible have K8 := Lib.hid (KB.call hb ho (K7.out.alloc2 _ _))) | fail); clear ho hb; (first | (have NX := net_cells (K8.out.blk _ List.mem_cons_self).1; obtain ⟨k0, k1, k2, k3, k4, k5, k6⟩ := NX; have kf := blk_free (K8.out.blk _ List.mem_cons_self).1; have kl := lt_of_block (K8.out.blk _ List.mem_cons_self).1) | (have NX := net_cells (K8.out.blk _ (List.mem_cons_of_mem _ List.mem_cons_self)).1; obtain ⟨k0, k1, k2, k3, k4, k5, k6⟩ := NX; have kf := blk_free (K8.out.blk _ (List.mem_cons_of_mem _ List.mem_cons_self)).1; have kl := lt_of_block (K8.out.blk _ (List.mem_cons_of_mem _ List.mem_cons_self)).1) | skip)) | fail)
        all_goals
          go_wp2_with fail
          go_meet
          case rel =>
            have hfo := HFO.out
            rw [zeros_eq] at hfo
            subst hfo
            simp only [toV_eq] at K8
            first | (with_reducible exact ⟨_, _, D2, e2, D3, e3, D4, e4, rfl, Lib.hid (K8.out.pst List.mem_cons_self (List.mem_cons_of_mem _ List.mem_cons_self) _ _ _ _ _ _ _ (rev3 _ _ _))⟩) | (with_reducible exact ⟨_, _, D2, e2, D3, e3, D4, e4, rfl, Lib.hid (K8.out.pst (List.mem_cons_of_mem _ List.mem_cons_self) List.mem_cons_self _ _ _ _ _ _ _ (rev3 _ _ _))⟩) | (with_reducible exact ⟨_, _, D2, e2, D3, e3, D4, e4, rfl, Lib.hid (K8.out.pst2 _ List.mem_cons_self _ _ _ _ _ _ _ (rev3 _ _ _))⟩) | (with_reducible exact ⟨_, _, D2, e2, D3, e3, D4, e4, rfl, Lib.hid (K8.out.pst2 _ (List.mem_cons_of_mem _ List.mem_cons_self) _ _ _ _ _ _ _ (rev3 _ _ _))⟩) | (with_reducible exact ⟨_, _, D2, e2, D3, e3, D4, e4, rfl, Lib.hid ((K8.out.alloc _).pstZ List.mem_cons_self (List.mem_cons_of_mem _ List.mem_cons_self) (rev3 _ _ _))⟩) | (with_reducible exact ⟨_, _, D2, e2, D3, e3, D4, e4, rfl, Lib.hid ((K8.out.alloc _).pstZ (List.mem_cons_of_mem _ List.mem_cons_self) List.mem_cons_self (rev3 _ _ _))⟩) | (with_reducible exact ⟨_, _, D2, e2, D3, e3, D4, e4, rfl, Lib.hid ((K8.out.alloc2 _ _).pstZ List.mem_cons_self (List.mem_cons_of_mem _ List.mem_cons_self) (rev3 _ _ _))⟩) | (with_reducible exact ⟨_, _, D2, e2, D3, e3, D4, e4, rfl, Lib.hid ((K8.out.alloc2 _ _).pstZ (List.mem_cons_of_mem _ List.mem_cons_self) List.mem_cons_self (rev3 _ _ _))⟩) | fail
      case rest =>
        obtain ⟨gF, g13, D2, e2, D3, e3, D4, e4, rfl, P0⟩ := hcut
        clear r0 r1 r2 r3 r4 r5 r6 K0 hmk hwr hwr2 hi0 hz0 hz1 hz2
        go_wp2_with fail
        go_loopw [14] (fun i wr => ∃ (k : Nat) (F : List Int), k ≤ n1 ∧ i = .int .i64 k ∧ Hid (PSt W wr g13 gF #[.int .i64 ((n1 : Int) + 1), .slice (some ⟨gF, 0, none⟩) (n1 + 1) (n1 + 1), .slice D2 n2 e2, .slice D3 n3 e3, .slice D4 n4 e4, .slice A5 n5 c5, .slice none 0 0] F [⟨3, .slice D2 n2 e2, n2, (N.ins.map (toI n1 bq)).map (Value.int .i64)⟩, ⟨3, .slice D3 n3 e3, n3, (N.outs.map (toI n1 bq)).map (Value.int .i64)⟩, ⟨3, .slice D4 n4 e4, n4, (N.keeps.map (toI n1 bq)).map (Value.int .i64)⟩] (.slice none 0 0) 0 []) ∧ Hid (F.length = n1 + 1 ∧ ∀ q, q < k → F.getD (toN n1 bq q) 0 = N.first.getD q 0)) (fun i _ => n1 - (intOf i).toNat)
        case atStart => exact ⟨0, _, Nat.zero_le _, rfl, P0, Lib.hid ⟨by simp, fun q h => absurd h (by omega)⟩⟩
        case round =>
          clear P0
          obtain ⟨k, F, hk, rfl, P, FF⟩ := hrel
          obtain ⟨q0, q1, q2, q3, q4, q5, q6, _⟩ := MKS.out _ P.out.below
          by_cases hlt : k < n1
          · obtain ⟨bb, o, rfl, hc⟩ := (NW.out.i1.up P.out.below).2 (by omega)
            have hck := hc k hlt
            have FF2 := Lib.hid (first_step hbq hlt FF.out)
            obtain ⟨x, hx⟩ : ∃ x, x = N.first.getD k 0 := ⟨_, rfl⟩
            obtain ⟨tk, htk⟩ : ∃ t, t = toN n1 bq k := ⟨_, rfl⟩
            have htl : tk < n1 := by rw [htk]; exact toN_lt (by omega)
            have HT : Hid (∀ X : World, X.cell? ⟨g5, 0, none⟩ = some (.int .i64 bq) → X.cell? ⟨g4, 0, none⟩ = some (.int .i64 n1) → Calls Tryd.prog 30 #[.int .i64 k, .pointer (some ⟨g5, 0, none⟩), .pointer (some ⟨g4, 0, none⟩)] X fun e w' => e = .returned (.int .i64 (tk : Int)) ∧ w' = X) := Lib.hid fun X a b => (to_kept k bq n1 g5 g4 hn1 hlt hbq X a b).mono fun e w' h => ⟨by rw [htk]; exact h.1, h.2.symm⟩
            rw [← hx] at hck FF2
            rw [← htk] at FF2
            clear hx htk hc
            have D5 := Lib.hid (P.out.drew.setF tk x)
            obtain ⟨d0, d1, d2, d3, d4, d5, d6⟩ := net_cells P.out.net
            have fF := blk_free P.out.first
            have cF := first_cell P.out.first (j := tk) (by have := FF.out.1; omega)
            have c5 := cell_up P.out.below H5.out
            have c11 := cell_up P.out.below H11.out
            have i0' : (0 : Int) ≤ (k : Int) := by omega
            have i1' : (k : Int) < (n1 : Int) := by omega
            have i2' : (tk : Int) < (n1 : Int) + 1 := by omega
            have i3' : (0 : Int) ≤ (tk : Int) := by omega
            clear FF q2 q3 q4 q5 q6 d0 d2 d3 d4 d5 d6
            go_upto_region 15 with fail
            go_still_tail 11, (by kernel_rfl)
            still_call (HT.out _ c5 q0)
            repeat still_step
            refine wpStill_nil ?_
            change wpList _ _ _ _ _ wr.drew
            go_wp2_with fail
            go_roundw
            case rel => exact ⟨k + 1, _, by omega, by go_num, D5, FF2⟩
            case measure => simp [intOf]; omega
          · obtain rfl : n1 = k := by omega
            have SIM : Hid (Sim n1 bq N.first F) := Lib.hid ⟨NW.out.i1.1, FF.out.1, FF.out.2⟩
            have FL := Lib.hid FF.out.1
            clear FF
            go_wp2_with fail
            go_loopw [15] (fun i wr => ∃ (j k6 e6 : Nat) (A6' : Option Addr) (cs : List Stp), j ≤ n6 ∧ i = .int .i64 j ∧ k6 ≤ 2 * j ∧ Hid (PSt W wr g13 gF #[.int .i64 ((n1 : Int) + 1), .slice (some ⟨gF, 0, none⟩) (n1 + 1) (n1 + 1), .slice D2 n2 e2, .slice D3 n3 e3, .slice D4 n4 e4, .slice A5 n5 c5, .slice A6' k6 e6] F [⟨3, .slice D2 n2 e2, n2, (N.ins.map (toI n1 bq)).map (Value.int .i64)⟩, ⟨3, .slice D3 n3 e3, n3, (N.outs.map (toI n1 bq)).map (Value.int .i64)⟩, ⟨3, .slice D4 n4 e4, n4, (N.keeps.map (toI n1 bq)).map (Value.int .i64)⟩] (.slice A6' k6 e6) k6 (cs.flatMap stpC)) ∧ Hid (Mixed n1 bq (N.code.take j) cs)) (fun i _ => n6 - (intOf i).toNat)
            case atStart => exact ⟨0, 0, 0, none, [], Nat.zero_le _, rfl, by omega, P, Lib.hid Mixed.nil⟩
            case round =>
              clear P
              obtain ⟨j, k6, e6, A6', cs, hj, rfl, hk6, P, MX⟩ := hrel
              obtain ⟨q0, q1, q2, q3, q4, q5, q6, _⟩ := MKS.out _ P.out.below
              by_cases hlt : j < n6
              · obtain ⟨bb, o, rfl, hc⟩ := (NW.out.i6.up P.out.below).2 (by omega)
                obtain ⟨s, hs0, hs1, hs2, hs3, hs4, hs5⟩ := hc j hlt
                have GS := Lib.hid (GD.out.code s (List.mem_of_getElem? hs0))
                have MX2 : Hid (∀ cs', Mixed n1 bq [s] cs' → Mixed n1 bq (N.code.take (j + 1)) (cs ++ cs')) := Lib.hid fun cs' h => by
                  rw [List.take_add_one, hs0]
                  exact MX.out.append h
                obtain ⟨sc, sd, sa, sb, se⟩ := s
                simp only [] at hs1 hs2 hs3 hs4 hs5
                have i0' : (0 : Int) ≤ (j : Int) := by omega
                have i1' : (j : Int) < (n6 : Int) := by omega
                have hgx0 := heap_alloc_new wr (Obj.cells #[.int .i64 sc, .int .i64 sd, .int .i64 sa, .int .i64 sb, .int .i64 se] 31)
                have P1 := Lib.hid (P.out.grow ((Below.refl wr.heap.size wr).alloc (Nat.le_refl _) (Obj.cells #[.int .i64 sc, .int .i64 sd, .int .i64 sa, .int .i64 sb, .int .i64 se] 31)))
                have HGX := Lib.hid hgx0
                have hb6 := N3.out.b6
                clear hc hs0 MX hgx0
                go_upto_region 20 with fail
                clear hs1 hs2 hs3 hs4 hs5 q0 q1 q2 q3 q4 q5 q6 P
                obtain ⟨gx, hgx⟩ : ∃ gx, gx = wr.heap.size := ⟨_, rfl⟩
                obtain ⟨Wx, hWx⟩ : ∃ X, X = wr.alloc (Obj.cells #[.int .i64 sc, .int .i64 sd, .int .i64 sa, .int .i64 sb, .int .i64 se] 31) := ⟨_, rfl⟩
                rw [← hgx, ← hWx] at HGX
                rw [← hWx] at P1
                rw [← hgx, ← hWx]
                clear hgx hWx
                obtain ⟨e0, e1, e2', e3', e4'⟩ := x_cells (s := ⟨sc, sd, sa, sb, se⟩) HGX.out
                go_upto_region 21 with (go_at_call 11; refine (asks_any ⟨sc, sd, sa, sb, se⟩ _).mono ?_; rintro r w14 ⟨AA, ca, rfl, hca, hia, hba⟩; have P14 := Lib.hid (P1.out.grow hba); have X14 := Lib.hid (grown_blk (grown_below none hba) HGX.out (by simp)); clear hba hia)
                clear e0 e1 e2' e3' e4' P1 HGX hca
                obtain ⟨ar, har⟩ : ∃ ar, ar = arityV sc := ⟨_, rfl⟩
                have hr3 := arity_le sc
                rw [← har] at hr3
                obtain ⟨e0, e1, e2', e3', e4'⟩ := x_cells (s := ⟨sc, sd, sa, sb, se⟩) X14.out
                have MKX : Hid (∀ X, Below w14.heap.size w14 X → X.cell? ⟨gx, 0, none⟩ = some (.int .i64 sc) ∧ X.cell? ⟨gx, 1, none⟩ = some (.int .i64 sd) ∧ X.cell? ⟨gx, 2, none⟩ = some (.int .i64 sa) ∧ X.cell? ⟨g11, 0, none⟩ = some (.func (.func 30) #[] #[.pointer (some ⟨g5, 0, none⟩), .pointer (some ⟨g4, 0, none⟩)]) ∧ X.cell? ⟨g5, 0, none⟩ = some (.int .i64 bq) ∧ X.cell? ⟨g4, 0, none⟩ = some (.int .i64 n1) ∧ Below w14.heap.size w14 X) := Lib.hid fun X h => ⟨cell_up h e0, cell_up h e1, cell_up h e2', cell_up h (cell_up P14.out.below H11.out), cell_up h (cell_up P14.out.below H5.out), cell_up h (cell_up P14.out.below H4.out), h⟩
                have AR := Lib.hid har
                clear e0 e1 e2' e3' e4' har
                have B0 := Lib.hid (Below.refl w14.heap.size w14)
                have YT := Lib.hid (YSt.start (sx := ⟨sc, sd, sa, sb, se⟩) P14.out X14.out)
                rw [← AR.out]
                go_cut [18] from 98 to 116 (fun t18 wx => ∃ gy, t18 = .pointer (some ⟨gy, 0, none⟩) ∧ Hid (YSt W wx g13 gF #[.int .i64 ((n1 : Int) + 1), .slice (some ⟨gF, 0, none⟩) (n1 + 1) (n1 + 1), .slice D2 n2 e2, .slice D3 n3 e3, .slice D4 n4 e4, .slice A5 n5 c5, .slice A6' k6 e6] F [⟨3, .slice D2 n2 e2, n2, (N.ins.map (toI n1 bq)).map (Value.int .i64)⟩, ⟨3, .slice D3 n3 e3, n3, (N.outs.map (toI n1 bq)).map (Value.int .i64)⟩, ⟨3, .slice D4 n4 e4, n4, (N.keeps.map (toI n1 bq)).map (Value.int .i64)⟩] (.slice A6' k6 e6) k6 (cs.flatMap stpC) gx gy ⟨sc, sd, sa, sb, se⟩ ⟨sc, toI n1 bq sd, sa, 0, 0⟩))
                case first =>
                  have HC : Hid (∀ X : World, X.cell? ⟨g5, 0, none⟩ = some (.int .i64 bq) → X.cell? ⟨g4, 0, none⟩ = some (.int .i64 n1) → Calls Tryd.prog 30 #[.int .i64 sd, .pointer (some ⟨g5, 0, none⟩), .pointer (some ⟨g4, 0, none⟩)] X fun e w' => e = .returned (.int .i64 (toI n1 bq sd)) ∧ X = w') := Lib.hid fun X a b => to_keptI sd bq n1 g5 g4 hn1 GS.out.d hbq X a b
                  obtain ⟨td, htd⟩ : ∃ t, t = toI n1 bq sd := ⟨_, rfl⟩
                  rw [← htd] at HC
                  have HD := Lib.hid htd
                  clear htd
                  go_region_held3 (fun X => X.cell? ⟨gx, 0, none⟩ = some (.int .i64 sc) ∧ X.cell? ⟨gx, 1, none⟩ = some (.int .i64 sd) ∧ X.cell? ⟨gx, 2, none⟩ = some (.int .i64 sa) ∧ X.cell? ⟨g11, 0, none⟩ = some (.func (.func 30) #[] #[.pointer (some ⟨g5, 0, none⟩), .pointer (some ⟨g4, 0, none⟩)]) ∧ X.cell? ⟨g5, 0, none⟩ = some (.int .i64 bq) ∧ X.cell? ⟨g4, 0, none⟩ = some (.int .i64 n1) ∧ Below w14.heap.size w14 X)
                    ((first | assumption | (with_reducible exact MKX.out _ B0.out.drew) | (with_reducible exact MKX.out _ (B0.out.alloc (Nat.le_refl _) _).drew) | (refine MKX.out _ ?_; exact below_grow ((B0.out.alloc (Nat.le_refl _) _).drew) (grown_set (grown_set (grown_set (grown_set (grown_set (grown_refl _ _) _) _) _) _) _) (Nat.le_refl _)) | fail))
                    (first | (go_at_call 30; (with_reducible refine (HC.out _ ?_ ?_).mono ?_); (exact cell_up (pickG (by assumption)) (cell_up P14.out.below H5.out)); (exact cell_up (pickG (by assumption)) (cell_up P14.out.below H4.out)); rintro r w2 ⟨rfl, rfl⟩) | fail)
                  all_goals
                    go_wp2_with fail
                    go_meet
                    case rel => exact ⟨w14.heap.size, rfl, Lib.hid (by rw [← HD.out]; first | exact (YSt.start' (sx := ⟨sc, sd, sa, sb, se⟩) ⟨sc, td, sa, 0, 0⟩ P14.out X14.out).drew | exact YT.out.drew.sets sc td sa 0 0)⟩
                case rest =>
                  obtain ⟨gy, rfl, V0⟩ := hcut
                  clear P14 X14 YT B0 MKX
                  obtain ⟨e0, e1, e2', e3', e4'⟩ := x_cells V0.out.x
                  obtain ⟨f0, f1, f2, f3, f4⟩ := x_cells V0.out.y
                  have fy := blk_free V0.out.y
                  have c11 := cell_up V0.out.st.below H11.out
                  go_upto_if 118 with fail
                  go_cut [117] from 117 to 123 (fun _ wx => Hid (YSt W wx g13 gF #[.int .i64 ((n1 : Int) + 1), .slice (some ⟨gF, 0, none⟩) (n1 + 1) (n1 + 1), .slice D2 n2 e2, .slice D3 n3 e3, .slice D4 n4 e4, .slice A5 n5 c5, .slice A6' k6 e6] F [⟨3, .slice D2 n2 e2, n2, (N.ins.map (toI n1 bq)).map (Value.int .i64)⟩, ⟨3, .slice D3 n3 e3, n3, (N.outs.map (toI n1 bq)).map (Value.int .i64)⟩, ⟨3, .slice D4 n4 e4, n4, (N.keeps.map (toI n1 bq)).map (Value.int .i64)⟩] (.slice A6' k6 e6) k6 (cs.flatMap stpC) gx gy ⟨sc, sd, sa, sb, se⟩ ⟨sc, toI n1 bq sd, (if 1 ≤ arityV sc then toI n1 bq sa else sa), 0, 0⟩))
                  case first =>
                    by_cases hq : 1 ≤ ar
                    · have hd : decide ((0 : Int) < (ar : Int)) = true := by simp; omega
                      have HC : Hid (Calls Tryd.prog 30 #[.int .i64 sa, .pointer (some ⟨g5, 0, none⟩), .pointer (some ⟨g4, 0, none⟩)] wc fun e w' => e = .returned (.int .i64 (toI n1 bq sa)) ∧ wc = w') := Lib.hid (to_keptI sa bq n1 g5 g4 hn1 (GS.out.a (by show 1 ≤ arityV sc; rw [← AR.out]; exact hq)) hbq wc (cell_up V0.out.st.below H5.out) (cell_up V0.out.st.below H4.out))
                      obtain ⟨td, htd⟩ : ∃ t, t = toI n1 bq sa := ⟨_, rfl⟩
                      rw [← htd] at HC
                      have V' := Lib.hid (V0.out.setA td)
                      have V : Hid (YSt W (wc.setCell ⟨gy, 2, none⟩ (.int .i64 td)) g13 gF #[.int .i64 ((n1 : Int) + 1), .slice (some ⟨gF, 0, none⟩) (n1 + 1) (n1 + 1), .slice D2 n2 e2, .slice D3 n3 e3, .slice D4 n4 e4, .slice A5 n5 c5, .slice A6' k6 e6] F [⟨3, .slice D2 n2 e2, n2, (N.ins.map (toI n1 bq)).map (Value.int .i64)⟩, ⟨3, .slice D3 n3 e3, n3, (N.outs.map (toI n1 bq)).map (Value.int .i64)⟩, ⟨3, .slice D4 n4 e4, n4, (N.keeps.map (toI n1 bq)).map (Value.int .i64)⟩] (.slice A6' k6 e6) k6 (cs.flatMap stpC) gx gy ⟨sc, sd, sa, sb, se⟩ ⟨sc, toI n1 bq sd, (if 1 ≤ arityV sc then toI n1 bq sa else sa), 0, 0⟩) := Lib.hid (by rw [if_pos (show 1 ≤ arityV sc by rw [← AR.out]; exact hq), ← htd]; exact V'.out)
                      clear htd V'
                      go_wp2_with (go_at_call 30; refine HC.out.mono ?_; rintro r w2 ⟨rfl, rfl⟩)
                      go_meet
                      case rel => exact V
                    · have hd : decide ((0 : Int) < (ar : Int)) = false := by simp; omega
                      have V : Hid (YSt W wc g13 gF #[.int .i64 ((n1 : Int) + 1), .slice (some ⟨gF, 0, none⟩) (n1 + 1) (n1 + 1), .slice D2 n2 e2, .slice D3 n3 e3, .slice D4 n4 e4, .slice A5 n5 c5, .slice A6' k6 e6] F [⟨3, .slice D2 n2 e2, n2, (N.ins.map (toI n1 bq)).map (Value.int .i64)⟩, ⟨3, .slice D3 n3 e3, n3, (N.outs.map (toI n1 bq)).map (Value.int .i64)⟩, ⟨3, .slice D4 n4 e4, n4, (N.keeps.map (toI n1 bq)).map (Value.int .i64)⟩] (.slice A6' k6 e6) k6 (cs.flatMap stpC) gx gy ⟨sc, sd, sa, sb, se⟩ ⟨sc, toI n1 bq sd, (if 1 ≤ arityV sc then toI n1 bq sa else sa), 0, 0⟩) := Lib.hid (by rw [if_neg (show ¬ 1 ≤ arityV sc by rw [← AR.out]; exact hq)]; exact V0.out)
                      go_wp2_with fail
                      go_meet
                      case rel => exact V
                  case rest =>
                    have V1 := hcut
                    clear V0 e0 e1 e2' e3' e4' f0 f1 f2 f3 f4 fy c11 hcut
                    obtain ⟨e0, e1, e2', e3', e4'⟩ := x_cells V1.out.x
                    obtain ⟨f0, f1, f2, f3, f4⟩ := x_cells V1.out.y
                    have fy := blk_free V1.out.y
                    have c11 := cell_up V1.out.st.below H11.out
                    go_upto_if 125 with fail
                    go_cut [124] from 124 to 130 (fun _ wx => Hid (YSt W wx g13 gF #[.int .i64 ((n1 : Int) + 1), .slice (some ⟨gF, 0, none⟩) (n1 + 1) (n1 + 1), .slice D2 n2 e2, .slice D3 n3 e3, .slice D4 n4 e4, .slice A5 n5 c5, .slice A6' k6 e6] F [⟨3, .slice D2 n2 e2, n2, (N.ins.map (toI n1 bq)).map (Value.int .i64)⟩, ⟨3, .slice D3 n3 e3, n3, (N.outs.map (toI n1 bq)).map (Value.int .i64)⟩, ⟨3, .slice D4 n4 e4, n4, (N.keeps.map (toI n1 bq)).map (Value.int .i64)⟩] (.slice A6' k6 e6) k6 (cs.flatMap stpC) gx gy ⟨sc, sd, sa, sb, se⟩ ⟨sc, toI n1 bq sd, (if 1 ≤ arityV sc then toI n1 bq sa else sa), (if 2 ≤ arityV sc then toI n1 bq sb else 0), 0⟩))
                    case first =>
                      by_cases hq : 2 ≤ ar
                      · have hd : decide ((1 : Int) < (ar : Int)) = true := by simp; omega
                        have HC : Hid (Calls Tryd.prog 30 #[.int .i64 sb, .pointer (some ⟨g5, 0, none⟩), .pointer (some ⟨g4, 0, none⟩)] wc fun e w' => e = .returned (.int .i64 (toI n1 bq sb)) ∧ wc = w') := Lib.hid (to_keptI sb bq n1 g5 g4 hn1 (GS.out.b (by show 2 ≤ arityV sc; rw [← AR.out]; exact hq)) hbq wc (cell_up V1.out.st.below H5.out) (cell_up V1.out.st.below H4.out))
                        obtain ⟨td, htd⟩ : ∃ t, t = toI n1 bq sb := ⟨_, rfl⟩
                        rw [← htd] at HC
                        have V' := Lib.hid (V1.out.setB td)
                        have V : Hid (YSt W (wc.setCell ⟨gy, 3, none⟩ (.int .i64 td)) g13 gF #[.int .i64 ((n1 : Int) + 1), .slice (some ⟨gF, 0, none⟩) (n1 + 1) (n1 + 1), .slice D2 n2 e2, .slice D3 n3 e3, .slice D4 n4 e4, .slice A5 n5 c5, .slice A6' k6 e6] F [⟨3, .slice D2 n2 e2, n2, (N.ins.map (toI n1 bq)).map (Value.int .i64)⟩, ⟨3, .slice D3 n3 e3, n3, (N.outs.map (toI n1 bq)).map (Value.int .i64)⟩, ⟨3, .slice D4 n4 e4, n4, (N.keeps.map (toI n1 bq)).map (Value.int .i64)⟩] (.slice A6' k6 e6) k6 (cs.flatMap stpC) gx gy ⟨sc, sd, sa, sb, se⟩ ⟨sc, toI n1 bq sd, (if 1 ≤ arityV sc then toI n1 bq sa else sa), (if 2 ≤ arityV sc then toI n1 bq sb else 0), 0⟩) := Lib.hid (by rw [if_pos (show 2 ≤ arityV sc by rw [← AR.out]; exact hq), ← htd]; exact V'.out)
                        clear htd V'
                        go_wp2_with (go_at_call 30; refine HC.out.mono ?_; rintro r w2 ⟨rfl, rfl⟩)
                        go_meet
                        case rel => exact V
                      · have hd : decide ((1 : Int) < (ar : Int)) = false := by simp; omega
                        have V : Hid (YSt W wc g13 gF #[.int .i64 ((n1 : Int) + 1), .slice (some ⟨gF, 0, none⟩) (n1 + 1) (n1 + 1), .slice D2 n2 e2, .slice D3 n3 e3, .slice D4 n4 e4, .slice A5 n5 c5, .slice A6' k6 e6] F [⟨3, .slice D2 n2 e2, n2, (N.ins.map (toI n1 bq)).map (Value.int .i64)⟩, ⟨3, .slice D3 n3 e3, n3, (N.outs.map (toI n1 bq)).map (Value.int .i64)⟩, ⟨3, .slice D4 n4 e4, n4, (N.keeps.map (toI n1 bq)).map (Value.int .i64)⟩] (.slice A6' k6 e6) k6 (cs.flatMap stpC) gx gy ⟨sc, sd, sa, sb, se⟩ ⟨sc, toI n1 bq sd, (if 1 ≤ arityV sc then toI n1 bq sa else sa), (if 2 ≤ arityV sc then toI n1 bq sb else 0), 0⟩) := Lib.hid (by rw [if_neg (show ¬ 2 ≤ arityV sc by rw [← AR.out]; exact hq)]; exact V1.out)
                        go_wp2_with fail
                        go_meet
                        case rel => exact V
                    case rest =>
                      have V2 := hcut
                      clear V1 e0 e1 e2' e3' e4' f0 f1 f2 f3 f4 fy c11 hcut
                      obtain ⟨e0, e1, e2', e3', e4'⟩ := x_cells V2.out.x
                      obtain ⟨f0, f1, f2, f3, f4⟩ := x_cells V2.out.y
                      have fy := blk_free V2.out.y
                      have c11 := cell_up V2.out.st.below H11.out
                      go_upto_if 132 with fail
                      go_cut [131] from 131 to 137 (fun _ wx => Hid (YSt W wx g13 gF #[.int .i64 ((n1 : Int) + 1), .slice (some ⟨gF, 0, none⟩) (n1 + 1) (n1 + 1), .slice D2 n2 e2, .slice D3 n3 e3, .slice D4 n4 e4, .slice A5 n5 c5, .slice A6' k6 e6] F [⟨3, .slice D2 n2 e2, n2, (N.ins.map (toI n1 bq)).map (Value.int .i64)⟩, ⟨3, .slice D3 n3 e3, n3, (N.outs.map (toI n1 bq)).map (Value.int .i64)⟩, ⟨3, .slice D4 n4 e4, n4, (N.keeps.map (toI n1 bq)).map (Value.int .i64)⟩] (.slice A6' k6 e6) k6 (cs.flatMap stpC) gx gy ⟨sc, sd, sa, sb, se⟩ ⟨sc, toI n1 bq sd, (if 1 ≤ arityV sc then toI n1 bq sa else sa), (if 2 ≤ arityV sc then toI n1 bq sb else 0), (if 3 ≤ arityV sc then toI n1 bq se else 0)⟩))
                      case first =>
                        by_cases hq : 3 ≤ ar
                        · have hd : decide ((2 : Int) < (ar : Int)) = true := by simp; omega
                          have HC : Hid (Calls Tryd.prog 30 #[.int .i64 se, .pointer (some ⟨g5, 0, none⟩), .pointer (some ⟨g4, 0, none⟩)] wc fun e w' => e = .returned (.int .i64 (toI n1 bq se)) ∧ wc = w') := Lib.hid (to_keptI se bq n1 g5 g4 hn1 (GS.out.e (by show 3 ≤ arityV sc; rw [← AR.out]; exact hq)) hbq wc (cell_up V2.out.st.below H5.out) (cell_up V2.out.st.below H4.out))
                          obtain ⟨td, htd⟩ : ∃ t, t = toI n1 bq se := ⟨_, rfl⟩
                          rw [← htd] at HC
                          have V' := Lib.hid (V2.out.setE td)
                          have V : Hid (YSt W (wc.setCell ⟨gy, 4, none⟩ (.int .i64 td)) g13 gF #[.int .i64 ((n1 : Int) + 1), .slice (some ⟨gF, 0, none⟩) (n1 + 1) (n1 + 1), .slice D2 n2 e2, .slice D3 n3 e3, .slice D4 n4 e4, .slice A5 n5 c5, .slice A6' k6 e6] F [⟨3, .slice D2 n2 e2, n2, (N.ins.map (toI n1 bq)).map (Value.int .i64)⟩, ⟨3, .slice D3 n3 e3, n3, (N.outs.map (toI n1 bq)).map (Value.int .i64)⟩, ⟨3, .slice D4 n4 e4, n4, (N.keeps.map (toI n1 bq)).map (Value.int .i64)⟩] (.slice A6' k6 e6) k6 (cs.flatMap stpC) gx gy ⟨sc, sd, sa, sb, se⟩ ⟨sc, toI n1 bq sd, (if 1 ≤ arityV sc then toI n1 bq sa else sa), (if 2 ≤ arityV sc then toI n1 bq sb else 0), (if 3 ≤ arityV sc then toI n1 bq se else 0)⟩) := Lib.hid (by rw [if_pos (show 3 ≤ arityV sc by rw [← AR.out]; exact hq), ← htd]; exact V'.out)
                          clear htd V'
                          go_wp2_with (go_at_call 30; refine HC.out.mono ?_; rintro r w2 ⟨rfl, rfl⟩)
                          go_meet
                          case rel => exact V
                        · have hd : decide ((2 : Int) < (ar : Int)) = false := by simp; omega
                          have V : Hid (YSt W wc g13 gF #[.int .i64 ((n1 : Int) + 1), .slice (some ⟨gF, 0, none⟩) (n1 + 1) (n1 + 1), .slice D2 n2 e2, .slice D3 n3 e3, .slice D4 n4 e4, .slice A5 n5 c5, .slice A6' k6 e6] F [⟨3, .slice D2 n2 e2, n2, (N.ins.map (toI n1 bq)).map (Value.int .i64)⟩, ⟨3, .slice D3 n3 e3, n3, (N.outs.map (toI n1 bq)).map (Value.int .i64)⟩, ⟨3, .slice D4 n4 e4, n4, (N.keeps.map (toI n1 bq)).map (Value.int .i64)⟩] (.slice A6' k6 e6) k6 (cs.flatMap stpC) gx gy ⟨sc, sd, sa, sb, se⟩ ⟨sc, toI n1 bq sd, (if 1 ≤ arityV sc then toI n1 bq sa else sa), (if 2 ≤ arityV sc then toI n1 bq sb else 0), (if 3 ≤ arityV sc then toI n1 bq se else 0)⟩) := Lib.hid (by rw [if_neg (show ¬ 3 ≤ arityV sc by rw [← AR.out]; exact hq)]; exact V2.out)
                          go_wp2_with fail
                          go_meet
                          case rel => exact V
                      case rest =>
                        have V3 := hcut
                        clear V2 e0 e1 e2' e3' e4' f0 f1 f2 f3 f4 fy c11 hcut
                        obtain ⟨sy, hsy⟩ : ∃ sy : Stp, sy = ⟨sc, toI n1 bq sd, (if 1 ≤ arityV sc then toI n1 bq sa else sa), (if 2 ≤ arityV sc then toI n1 bq sb else 0), (if 3 ≤ arityV sc then toI n1 bq se else 0)⟩ := ⟨_, rfl⟩
                        have TS : Hid (sy = toS n1 bq ⟨sc, sd, sa, sb, se⟩) := Lib.hid hsy
                        rw [← hsy] at V3
                        clear hsy
                        go_upto_region 28 with fail
                        obtain ⟨e0, e1, e2', e3', e4'⟩ := x_cells V3.out.y
                        obtain ⟨d0, d1, d2, d3, d4, d5, d6⟩ := net_cells V3.out.st.net
                        obtain ⟨i5, hi5, hy0, hy1, hy2⟩ := info_parts infoStpP
                        go_wp2_with (at_builtin; refine wpList_append_own _ rfl _ _ 24 rfl W.heap.size 31 i5 (.agg #[.int .i64 0, .int .i64 0, .int .i64 0, .int .i64 0, .int .i64 0]) 5 40 Tryd.underlying24 hi5 hy0 hy1 hy2 rfl (by decide) _ _ _ rfl (V3.out.st.code.alloc _) ⟨wc.heap.size, 0, none⟩ 1 1 (stpC sy) rfl rfl ?c1 ?c2 ?c3 ?c4 ?c5 ?_)
                        case c1 =>
                          intro j u hj
                          match j, hj with
                          | 0, hj => simp [stpC] at hj; subst hj; simp [Addr.add]
                          | 1, hj => simp [stpC] at hj; subst hj; simp [Addr.add]
                          | 2, hj => simp [stpC] at hj; subst hj; simp [Addr.add]
                          | 3, hj => simp [stpC] at hj; subst hj; simp [Addr.add]
                          | 4, hj => simp [stpC] at hj; subst hj; simp [Addr.add]
                          | j + 5, hj => simp [stpC] at hj
                        case c2 =>
                          intro u hu
                          simp only [stpC, List.mem_cons, List.not_mem_nil, or_false] at hu
                          rcases hu with rfl | rfl | rfl | rfl | rfl <;> rfl
                        case c3 => unfold maxLen; omega
                        case c4 => omega
                        case c5 => have := V3.out.st.below.size; simp; omega
                        intro v' w16 hown' hgrow _
                        obtain ⟨A7, c7, rfl⟩ : ∃ A c, v' = .slice A (k6 + 1) c := by
                          rcases hown'.2 with ⟨_, h⟩ | ⟨g', cap, cur, rfl, _⟩
                          · omega
                          · exact ⟨_, _, rfl⟩
                        have Y := Lib.hid ((V3.out.st.grow ((Below.refl _ _).alloc (Nat.le_refl _) _)).more hgrow hown')
                        have P30 : Hid (PSt W (w16.setCell ⟨g13, 6, none⟩ (.slice A7 (k6 + 1) c7)) g13 gF #[.int .i64 ((n1 : Int) + 1), .slice (some ⟨gF, 0, none⟩) (n1 + 1) (n1 + 1), .slice D2 n2 e2, .slice D3 n3 e3, .slice D4 n4 e4, .slice A5 n5 c5, .slice A7 (k6 + 1) c7] F [⟨3, .slice D2 n2 e2, n2, (N.ins.map (toI n1 bq)).map (Value.int .i64)⟩, ⟨3, .slice D3 n3 e3, n3, (N.outs.map (toI n1 bq)).map (Value.int .i64)⟩, ⟨3, .slice D4 n4 e4, n4, (N.keeps.map (toI n1 bq)).map (Value.int .i64)⟩] (.slice A7 (k6 + 1) c7) (k6 + 1) ((cs ++ [sy]).flatMap stpC)) := Lib.hid (by
                          rw [List.flatMap_append, List.flatMap_cons, List.flatMap_nil, List.append_nil]
                          exact Y.out.setN 6 _)
                        clear hown' hgrow d0 d1 d2 d3 d4 d5 d6 e0 e1 e2' e3' e4' V3
                        obtain ⟨d0, d1, d2, d3, d4, d5, d6⟩ := net_cells Y.out.net
                        have fg := blk_free Y.out.net
                        clear Y
                        by_cases hjn : j < nx
                        · obtain ⟨bx, ox, rfl, hcx⟩ := XW.out.2 (by omega)
                          obtain ⟨sm, hm0, hm1, hm2, hm3, hm4, hm5⟩ := hcx j hjn
                          have n0' : (j : Int) < (nx : Int) := by omega
                          obtain ⟨ma, hma⟩ : ∃ x, x = sm.a := ⟨_, rfl⟩
                          obtain ⟨mb, hmb⟩ : ∃ x, x = sm.b := ⟨_, rfl⟩
                          rw [← hma] at hm3
                          rw [← hmb] at hm4
                          have MKM : Hid (∀ X, Below W.heap.size W X → X.cell? ⟨g4, 0, none⟩ = some (.int .i64 n1) ∧ X.cell? ⟨bx, ox + j * 5 + 2, none⟩ = some (.int .i64 ma) ∧ X.cell? ⟨bx, ox + j * 5 + 3, none⟩ = some (.int .i64 mb)) := Lib.hid fun X h => ⟨(MKS.out X h).1, cell_up h hm3, cell_up h hm4⟩
                          clear hcx hm0 hm1 hm2 hm3 hm4 hm5 hma hmb
                          obtain ⟨ka, hka0⟩ : ∃ k, k = pickPl ma (n1 + 1) := ⟨_, rfl⟩
                          obtain ⟨kb, hkb0⟩ : ∃ k, k = pickPl mb n1 := ⟨_, rfl⟩
                          have hka : ka < n1 + 1 := by rw [hka0]; exact pickPl_lt (by omega)
                          have hkb : kb < n1 := by rw [hkb0]; exact pickPl_lt (by omega)
                          have HPa : Hid (∀ X : World, Calls Tryd.prog 29 #[.int .i64 ma, .int .i64 ((n1 : Int) + 1)] X fun r w' => r = .returned (.int .i64 (ka : Int)) ∧ w' = X) := Lib.hid fun X => by rw [hka0]; exact pick_at ma (n1 + 1) (by omega) (by omega) X
                          have HPb : Hid (∀ X : World, Calls Tryd.prog 29 #[.int .i64 mb, .int .i64 (n1 : Int)] X fun r w' => r = .returned (.int .i64 (kb : Int)) ∧ w' = X) := Lib.hid fun X => by rw [hkb0]; exact pick_at mb n1 (by omega) (by omega) X
                          clear hka0 hkb0
                          have hwr : IntKind.i64.wrap ((n1 : Int) + 1) = (n1 : Int) + 1 := by rw [IntKind.wrap_i64]; omega
                          have hwr2 : wrap64 ((n1 : Int) + 1) = (n1 : Int) + 1 := by unfold wrap64; omega
                          go_upto_region 30 with fail
                          obtain ⟨wz, hwz⟩ : ∃ X, X = w16.setCell ⟨g13, 6, none⟩ (.slice A7 (k6 + 1) c7) := ⟨_, rfl⟩
                          rw [← hwz] at P30
                          rw [← hwz]
                          clear d0 d1 d2 d3 d4 d5 d6 fg hwz
                          obtain ⟨d0, d1, d2, d3, d4, d5, d6⟩ := net_cells P30.out.net
                          have d6A : ∀ o, (wz.alloc o).cell? ⟨g13, 6, none⟩ = some (.slice A7 (k6 + 1) c7) := fun o => cell_up ((Below.refl _ _).alloc (Nat.le_refl _) o) d6
                          clear d0 d1 d2 d3 d4 d5
                          obtain ⟨m0, m1, m2⟩ := MKM.out _ P30.out.below
                          refine wp_region_held_drew (S := (fun X => X.cell? ⟨g4, 0, none⟩ = some (.int .i64 n1) ∧ X.cell? ⟨bx, ox + j * 5 + 2, none⟩ = some (.int .i64 ma) ∧ X.cell? ⟨bx, ox + j * 5 + 3, none⟩ = some (.int .i64 mb))) (by kernel_rfl) (MKM.out _ P30.out.below.drew) (fun hHeld => ?_)
                          clear m0 m1 m2
                          refine take_at (i := 0) (v := ?vv1) rfl (by kernel_rfl) (by kernel_rfl) (by kernel_rfl) (fun _ _ _ h => h) (Or.inl ⟨by rfl, ?hy1⟩) (by assumption) ?rest1
                          case hy1 => (intro w hSw; (try dsimp only at hSw); go_simp; try with_reducible rfl)
                          try simp only [Act.put, List.setIfInBounds_toArray, List.set_cons_zero, List.set_cons_succ]
                          refine take_at (i := 2) (v := ?vv2) rfl (by kernel_rfl) (by kernel_rfl) (by kernel_rfl) (fun _ _ _ h => h) (Or.inl ⟨by rfl, ?hy2⟩) (by assumption) ?rest2
                          case hy2 => (intro w hSw; (try dsimp only at hSw); go_simp; try with_reducible rfl)
                          try simp only [Act.put, List.setIfInBounds_toArray, List.set_cons_zero, List.set_cons_succ]
                          refine take_at (i := 3) (v := ?vv3) rfl (by kernel_rfl) (by kernel_rfl) (by kernel_rfl) (fun _ _ _ h => h) (Or.inl ⟨by rfl, ?hy3⟩) (by assumption) ?rest3
                          case hy3 => (intro w hSw; (try dsimp only at hSw); go_simp; try with_reducible rfl)
                          try simp only [Act.put, List.setIfInBounds_toArray, List.set_cons_zero, List.set_cons_succ]
                          refine take_at (i := 4) (v := ?vv4) rfl (by kernel_rfl) (by kernel_rfl) (by kernel_rfl) (fun _ _ _ h => h) (Or.inl ⟨by rfl, ?hy4⟩) (by assumption) ?rest4
                          case hy4 => (intro w hSw; (try dsimp only at hSw); go_simp; try with_reducible rfl)
                          try simp only [Act.put, List.setIfInBounds_toArray, List.set_cons_zero, List.set_cons_succ]
                          refine take_at (i := 5) (v := ?vv5) rfl (by kernel_rfl) (by kernel_rfl) (by kernel_rfl) (fun _ _ _ h => h) (Or.inl ⟨by rfl, ?hy5⟩) (by assumption) ?rest5
                          case hy5 => (intro w hSw; (try dsimp only at hSw); go_simp; try with_reducible rfl)
                          try simp only [Act.put, List.setIfInBounds_toArray, List.set_cons_zero, List.set_cons_succ]
                          refine take_at (i := 6) (v := ?vv6) rfl (by kernel_rfl) (by kernel_rfl) (by kernel_rfl) (fun _ _ _ h => h) (Or.inl ⟨by rfl, ?hy6⟩) (by assumption) ?rest6
                          case hy6 => (intro w hSw; (try dsimp only at hSw); go_simp; try with_reducible rfl)
                          try simp only [Act.put, List.setIfInBounds_toArray, List.set_cons_zero, List.set_cons_succ]
                          refine take_at (i := 7) (v := ?vv7) rfl (by kernel_rfl) (by kernel_rfl) (by kernel_rfl) (fun _ _ _ h => h) (Or.inl ⟨by rfl, ?hy7⟩) (by assumption) ?rest7
                          case hy7 => (intro w hSw; (try dsimp only at hSw); go_simp; try with_reducible rfl)
                          try simp only [Act.put, List.setIfInBounds_toArray, List.set_cons_zero, List.set_cons_succ]
                          refine take_at (i := 8) (v := ?vv8) rfl (by kernel_rfl) (by kernel_rfl) (by kernel_rfl) (fun _ _ _ h => h) (Or.inl ⟨by rfl, ?hy8⟩) (by assumption) ?rest8
                          case hy8 => (intro w hSw; (try dsimp only at hSw); go_simp; try with_reducible rfl)
                          try simp only [Act.put, List.setIfInBounds_toArray, List.set_cons_zero, List.set_cons_succ]
                          refine take_at (i := 9) (v := ?vv9) rfl (by kernel_rfl) (by kernel_rfl) (by kernel_rfl) (fun _ _ _ h => h) (Or.inl ⟨by rfl, ?hy9⟩) (by assumption) ?rest9
                          case hy9 => (intro w hSw; (try dsimp only at hSw); go_simp; try with_reducible rfl)
                          try simp only [Act.put, List.setIfInBounds_toArray, List.set_cons_zero, List.set_cons_succ]
                          refine take_at (i := 10) (v := ?vv10) rfl (by kernel_rfl) (by kernel_rfl) (by kernel_rfl) (fun _ _ _ h => h) (Or.inl ⟨by rfl, ?hy10⟩) (by assumption) ?rest10
                          case hy10 => (intro w hSw; (try dsimp only at hSw); go_simp; try with_reducible rfl)
                          try simp only [Act.put, List.setIfInBounds_toArray, List.set_cons_zero, List.set_cons_succ]
                          refine take_at (i := 11) (v := ?vv11) rfl (by kernel_rfl) (by kernel_rfl) (by kernel_rfl) (fun _ _ _ h => h) (Or.inl ⟨by rfl, ?hy11⟩) (by assumption) ?rest11
                          case hy11 => (intro w hSw; (try dsimp only at hSw); go_simp; try with_reducible rfl)
                          try simp only [Act.put, List.setIfInBounds_toArray, List.set_cons_zero, List.set_cons_succ]
                          refine take_at (i := 13) (v := ?vv12) rfl (by kernel_rfl) (by kernel_rfl) (by kernel_rfl) (fun _ _ _ h => h) (Or.inl ⟨by rfl, ?hy12⟩) (by assumption) ?rest12
                          case hy12 => (intro w hSw; (try dsimp only at hSw); go_simp; try with_reducible rfl)
                          try simp only [Act.put, List.setIfInBounds_toArray, List.set_cons_zero, List.set_cons_succ]
                          refine take_at (i := 14) (v := ?vv13) rfl (by kernel_rfl) (by kernel_rfl) (by kernel_rfl) (fun _ _ _ h => h) (Or.inl ⟨by rfl, ?hy13⟩) (by assumption) ?rest13
                          case hy13 => (intro w hSw; (try dsimp only at hSw); go_simp; try with_reducible rfl)
                          try simp only [Act.put, List.setIfInBounds_toArray, List.set_cons_zero, List.set_cons_succ]
                          refine take_at (i := 15) (v := ?vv14) rfl (by kernel_rfl) (by kernel_rfl) (by kernel_rfl) (fun _ _ _ h => h) (Or.inl ⟨by rfl, ?hy14⟩) (by assumption) ?rest14
                          case hy14 => (intro w hSw; (try dsimp only at hSw); go_simp; try with_reducible rfl)
                          try simp only [Act.put, List.setIfInBounds_toArray, List.set_cons_zero, List.set_cons_succ]
                          refine take_at (i := 16) (v := ?vv15) rfl (by kernel_rfl) (by kernel_rfl) (by kernel_rfl) (fun _ _ _ h => h) (Or.inl ⟨by rfl, ?hy15⟩) (by assumption) ?rest15
                          case hy15 => (intro w hSw; (try dsimp only at hSw); go_simp; try with_reducible rfl)
                          try simp only [Act.put, List.setIfInBounds_toArray, List.set_cons_zero, List.set_cons_succ]
                          refine take_at (i := 17) (v := ?vv16) rfl (by kernel_rfl) (by kernel_rfl) (by kernel_rfl) (fun _ _ _ h => h) (Or.inl ⟨by rfl, ?hy16⟩) (by assumption) ?rest16
                          case hy16 => (intro w hSw; (try dsimp only at hSw); go_simp; try with_reducible rfl)
                          try simp only [Act.put, List.setIfInBounds_toArray, List.set_cons_zero, List.set_cons_succ]
                          refine take_at (i := 18) (v := ?vv17) rfl (by kernel_rfl) (by kernel_rfl) (by kernel_rfl) (fun _ _ _ h => h) (Or.inl ⟨by rfl, ?hy17⟩) (by assumption) ?rest17
                          case hy17 => (intro w hSw; (try dsimp only at hSw); go_simp; try with_reducible rfl)
                          try simp only [Act.put, List.setIfInBounds_toArray, List.set_cons_zero, List.set_cons_succ]
                          refine take_at (i := 19) (v := ?vv18) rfl (by kernel_rfl) (by kernel_rfl) (by kernel_rfl) (fun _ _ _ h => h) (Or.inl ⟨by rfl, ?hy18⟩) (by assumption) ?rest18
                          case hy18 => (intro w hSw; (try dsimp only at hSw); go_simp; try with_reducible rfl)
                          try simp only [Act.put, List.setIfInBounds_toArray, List.set_cons_zero, List.set_cons_succ]
                          refine two_at (i := 1) (j := 12) (by kernel_rfl) rfl rfl (fun K hK => ?_) (fun K hK => ?_)
                          · go_simp
                            refine hK.out _ _ (by assumption) (fun hHeld => ?_)
                            clear hK K
                            try simp only [Act.put, List.setIfInBounds_toArray, List.set_cons_zero, List.set_cons_succ]
                            refine one_at (i := 12) (by kernel_rfl) rfl (fun K hK => ?_)
                            go_simp
                            refine (HPa.out _).mono ?_
                            rintro r w2 ⟨rfl, rfl⟩
                            go_wp2_with fail
                            refine hK.out _ _ (by assumption) (fun hHeld => ?_)
                            clear hK K
                            try simp only [Act.put, List.setIfInBounds_toArray, List.set_cons_zero, List.set_cons_succ]
                            refine one_at (i := 20) (by kernel_rfl) rfl (fun K hK => ?_)
                            go_simp
                            refine (HPb.out _).mono ?_
                            rintro r w2 ⟨rfl, rfl⟩
                            go_wp2_with fail
                            refine hK.out _ _ (by assumption) (fun hHeld => ?_)
                            clear hK K
                            try simp only [Act.put, List.setIfInBounds_toArray, List.set_cons_zero, List.set_cons_succ]
                            refine take_at (i := 21) (v := ?vv19) rfl (by kernel_rfl) (by kernel_rfl) (by kernel_rfl) (fun _ _ _ h => h) (Or.inl ⟨by rfl, ?hy19⟩) (by assumption) ?rest19
                            case hy19 => (intro w hSw; (try dsimp only at hSw); go_simp; try with_reducible rfl)
                            try simp only [Act.put, List.setIfInBounds_toArray, List.set_cons_zero, List.set_cons_succ]
                            refine one_at (i := 22) (by kernel_rfl) rfl (fun K hK => ?_)
                            go_simp
                            refine hK.out _ _ (MKM.out _ (P30.out.grow ((Below.refl _ _).alloc (Nat.le_refl _) _)).below.drew) (fun hHeld => ?_)
                            clear hK K
                            try simp only [Act.put, List.setIfInBounds_toArray, List.set_cons_zero, List.set_cons_succ]
                            refine one_at (i := 23) (by kernel_rfl) rfl (fun K hK => ?_)
                            refine step_append_lies _ (by rfl) _ _ _ (by rfl) W.heap.size 31 i5 _ 5 40 Tryd.underlying24 hi5 hy0 hy1 hy2 rfl (by omega) _ (k6 + 1) ((cs ++ [sy]).flatMap stpC) (by rfl) ((P30.out.code.alloc _).drew) ⟨wz.heap.size, 0, none⟩ 1 1 (stpC ⟨6, n1, ka, kb, 0⟩) (by rfl) (by rfl) (World.news_of_block (cs := (stpC ⟨6, n1, ka, kb, 0⟩).toArray) (t := 31) (fr := (0, 0)) (heap_alloc_new wz _)) (by simp [stpC, Value.oneCell']) (by omega) (by unfold maxLen; omega) (by omega) (by have := P30.out.below.size; simp; omega) (wz.heap.size + 1) (by simp) ?_
                            intro gg cap w1 hown1 hgrow hat hlt1
                            have PM := Lib.hid (((P30.out.grow ((Below.refl _ _).alloc (Nat.le_refl _) _)).drew).more hgrow hown1)
                            have fg1 := blk_free PM.out.net
                            have dd := (net_cells PM.out.net).2.2.2.2.2.2
                            clear hown1 hgrow hat
                            refine hK.out _ _ (MKM.out _ PM.out.below) (fun hHeld => ?_)
                            clear hK K
                            try simp only [Act.put, List.setIfInBounds_toArray, List.set_cons_zero, List.set_cons_succ]
                            refine take_at (i := 24) (v := ?vv20) rfl (by kernel_rfl) (by kernel_rfl) (by kernel_rfl) (fun _ _ _ h => h) (Or.inl ⟨by rfl, ?hy20⟩) (by assumption) ?rest20
                            case hy20 => (intro w hSw; (try dsimp only at hSw); go_simp; try with_reducible rfl)
                            try simp only [Act.put, List.setIfInBounds_toArray, List.set_cons_zero, List.set_cons_succ]
                            refine one_at (i := 25) (by kernel_rfl) rfl (fun K hK => ?_)
                            go_simp
                            refine hK.out _ _ (MKM.out _ (PM.out.setN _ _).below) (fun hHeld => ?_)
                            clear hK K
                            try simp only [Act.put, List.setIfInBounds_toArray, List.set_cons_zero, List.set_cons_succ]
                            refine wpAnyH_done (by kernel_rfl) ?_ _
                            go_wp2_with fail
                            go_roundw
                            case rel =>
                              refine ⟨j + 1, k6 + 2, cap, some ⟨gg, 0, none⟩, cs ++ [sy, ⟨6, n1, ka, kb, 0⟩], by omega, by go_num, by omega, Lib.hid ?_, Lib.hid ?_⟩
                              · have h := PM.out.setN 6 (.slice (some ⟨gg, 0, none⟩) (k6 + 2) cap)
                                rw [show (cs ++ [sy, ⟨6, n1, ka, kb, 0⟩]).flatMap stpC = (cs ++ [sy]).flatMap stpC ++ stpC ⟨6, n1, ka, kb, 0⟩ by simp [List.flatMap_append]]
                                exact h
                              · exact MX2.out _ (by rw [TS.out]; exact .cons (.more hka hkb .nil))
                            case measure => simp [intOf]; omega
                          · go_simp
                            refine (HPa.out _).mono ?_
                            rintro r w2 ⟨rfl, rfl⟩
                            go_wp2_with fail
                            refine hK.out _ _ (by assumption) (fun hHeld => ?_)
                            clear hK K
                            try simp only [Act.put, List.setIfInBounds_toArray, List.set_cons_zero, List.set_cons_succ]
                            refine two_at (i := 1) (j := 20) (by kernel_rfl) rfl rfl (fun K hK => ?_) (fun K hK => ?_)
                            · go_simp
                              refine hK.out _ _ (by assumption) (fun hHeld => ?_)
                              clear hK K
                              try simp only [Act.put, List.setIfInBounds_toArray, List.set_cons_zero, List.set_cons_succ]
                              refine one_at (i := 20) (by kernel_rfl) rfl (fun K hK => ?_)
                              go_simp
                              refine (HPb.out _).mono ?_
                              rintro r w2 ⟨rfl, rfl⟩
                              go_wp2_with fail
                              refine hK.out _ _ (by assumption) (fun hHeld => ?_)
                              clear hK K
                              try simp only [Act.put, List.setIfInBounds_toArray, List.set_cons_zero, List.set_cons_succ]
                              refine take_at (i := 21) (v := ?vv21) rfl (by kernel_rfl) (by kernel_rfl) (by kernel_rfl) (fun _ _ _ h => h) (Or.inl ⟨by rfl, ?hy21⟩) (by assumption) ?rest21
                              case hy21 => (intro w hSw; (try dsimp only at hSw); go_simp; try with_reducible rfl)
                              try simp only [Act.put, List.setIfInBounds_toArray, List.set_cons_zero, List.set_cons_succ]
                              refine one_at (i := 22) (by kernel_rfl) rfl (fun K hK => ?_)
                              go_simp
                              refine hK.out _ _ (MKM.out _ (P30.out.grow ((Below.refl _ _).alloc (Nat.le_refl _) _)).below.drew) (fun hHeld => ?_)
                              clear hK K
                              try simp only [Act.put, List.setIfInBounds_toArray, List.set_cons_zero, List.set_cons_succ]
                              refine one_at (i := 23) (by kernel_rfl) rfl (fun K hK => ?_)
                              refine step_append_lies _ (by rfl) _ _ _ (by rfl) W.heap.size 31 i5 _ 5 40 Tryd.underlying24 hi5 hy0 hy1 hy2 rfl (by omega) _ (k6 + 1) ((cs ++ [sy]).flatMap stpC) (by rfl) ((P30.out.code.alloc _).drew) ⟨wz.heap.size, 0, none⟩ 1 1 (stpC ⟨6, n1, ka, kb, 0⟩) (by rfl) (by rfl) (World.news_of_block (cs := (stpC ⟨6, n1, ka, kb, 0⟩).toArray) (t := 31) (fr := (0, 0)) (heap_alloc_new wz _)) (by simp [stpC, Value.oneCell']) (by omega) (by unfold maxLen; omega) (by omega) (by have := P30.out.below.size; simp; omega) (wz.heap.size + 1) (by simp) ?_
                              intro gg cap w1 hown1 hgrow hat hlt1
                              have PM := Lib.hid (((P30.out.grow ((Below.refl _ _).alloc (Nat.le_refl _) _)).drew).more hgrow hown1)
                              have fg1 := blk_free PM.out.net
                              have dd := (net_cells PM.out.net).2.2.2.2.2.2
                              clear hown1 hgrow hat
                              refine hK.out _ _ (MKM.out _ PM.out.below) (fun hHeld => ?_)
                              clear hK K
                              try simp only [Act.put, List.setIfInBounds_toArray, List.set_cons_zero, List.set_cons_succ]
                              refine take_at (i := 24) (v := ?vv22) rfl (by kernel_rfl) (by kernel_rfl) (by kernel_rfl) (fun _ _ _ h => h) (Or.inl ⟨by rfl, ?hy22⟩) (by assumption) ?rest22
                              case hy22 => (intro w hSw; (try dsimp only at hSw); go_simp; try with_reducible rfl)
                              try simp only [Act.put, List.setIfInBounds_toArray, List.set_cons_zero, List.set_cons_succ]
                              refine one_at (i := 25) (by kernel_rfl) rfl (fun K hK => ?_)
                              go_simp
                              refine hK.out _ _ (MKM.out _ (PM.out.setN _ _).below) (fun hHeld => ?_)
                              clear hK K
                              try simp only [Act.put, List.setIfInBounds_toArray, List.set_cons_zero, List.set_cons_succ]
                              refine wpAnyH_done (by kernel_rfl) ?_ _
                              go_wp2_with fail
                              go_roundw
                              case rel =>
                                refine ⟨j + 1, k6 + 2, cap, some ⟨gg, 0, none⟩, cs ++ [sy, ⟨6, n1, ka, kb, 0⟩], by omega, by go_num, by omega, Lib.hid ?_, Lib.hid ?_⟩
                                · have h := PM.out.setN 6 (.slice (some ⟨gg, 0, none⟩) (k6 + 2) cap)
                                  rw [show (cs ++ [sy, ⟨6, n1, ka, kb, 0⟩]).flatMap stpC = (cs ++ [sy]).flatMap stpC ++ stpC ⟨6, n1, ka, kb, 0⟩ by simp [List.flatMap_append]]
                                  exact h
                                · exact MX2.out _ (by rw [TS.out]; exact .cons (.more hka hkb .nil))
                              case measure => simp [intOf]; omega
                            · go_simp
                              refine (HPb.out _).mono ?_
                              rintro r w2 ⟨rfl, rfl⟩
                              go_wp2_with fail
                              refine hK.out _ _ (by assumption) (fun hHeld => ?_)
                              clear hK K
                              try simp only [Act.put, List.setIfInBounds_toArray, List.set_cons_zero, List.set_cons_succ]
                              refine take_at (i := 21) (v := ?vv23) rfl (by kernel_rfl) (by kernel_rfl) (by kernel_rfl) (fun _ _ _ h => h) (Or.inl ⟨by rfl, ?hy23⟩) (by assumption) ?rest23
                              case hy23 => (intro w hSw; (try dsimp only at hSw); go_simp; try with_reducible rfl)
                              try simp only [Act.put, List.setIfInBounds_toArray, List.set_cons_zero, List.set_cons_succ]
                              refine two_at (i := 1) (j := 22) (by kernel_rfl) rfl rfl (fun K hK => ?_) (fun K hK => ?_)
                              · go_simp
                                refine hK.out _ _ (by assumption) (fun hHeld => ?_)
                                clear hK K
                                try simp only [Act.put, List.setIfInBounds_toArray, List.set_cons_zero, List.set_cons_succ]
                                refine one_at (i := 22) (by kernel_rfl) rfl (fun K hK => ?_)
                                go_simp
                                refine hK.out _ _ (MKM.out _ (P30.out.grow ((Below.refl _ _).alloc (Nat.le_refl _) _)).below.drew) (fun hHeld => ?_)
                                clear hK K
                                try simp only [Act.put, List.setIfInBounds_toArray, List.set_cons_zero, List.set_cons_succ]
                                refine one_at (i := 23) (by kernel_rfl) rfl (fun K hK => ?_)
                                refine step_append_lies _ (by rfl) _ _ _ (by rfl) W.heap.size 31 i5 _ 5 40 Tryd.underlying24 hi5 hy0 hy1 hy2 rfl (by omega) _ (k6 + 1) ((cs ++ [sy]).flatMap stpC) (by rfl) ((P30.out.code.alloc _).drew) ⟨wz.heap.size, 0, none⟩ 1 1 (stpC ⟨6, n1, ka, kb, 0⟩) (by rfl) (by rfl) (World.news_of_block (cs := (stpC ⟨6, n1, ka, kb, 0⟩).toArray) (t := 31) (fr := (0, 0)) (heap_alloc_new wz _)) (by simp [stpC, Value.oneCell']) (by omega) (by unfold maxLen; omega) (by omega) (by have := P30.out.below.size; simp; omega) (wz.heap.size + 1) (by simp) ?_
                                intro gg cap w1 hown1 hgrow hat hlt1
                                have PM := Lib.hid (((P30.out.grow ((Below.refl _ _).alloc (Nat.le_refl _) _)).drew).more hgrow hown1)
                                have fg1 := blk_free PM.out.net
                                have dd := (net_cells PM.out.net).2.2.2.2.2.2
                                clear hown1 hgrow hat
                                refine hK.out _ _ (MKM.out _ PM.out.below) (fun hHeld => ?_)
                                clear hK K
                                try simp only [Act.put, List.setIfInBounds_toArray, List.set_cons_zero, List.set_cons_succ]
                                refine take_at (i := 24) (v := ?vv24) rfl (by kernel_rfl) (by kernel_rfl) (by kernel_rfl) (fun _ _ _ h => h) (Or.inl ⟨by rfl, ?hy24⟩) (by assumption) ?rest24
                                case hy24 => (intro w hSw; (try dsimp only at hSw); go_simp; try with_reducible rfl)
                                try simp only [Act.put, List.setIfInBounds_toArray, List.set_cons_zero, List.set_cons_succ]
                                refine one_at (i := 25) (by kernel_rfl) rfl (fun K hK => ?_)
                                go_simp
                                refine hK.out _ _ (MKM.out _ (PM.out.setN _ _).below) (fun hHeld => ?_)
                                clear hK K
                                try simp only [Act.put, List.setIfInBounds_toArray, List.set_cons_zero, List.set_cons_succ]
                                refine wpAnyH_done (by kernel_rfl) ?_ _
                                go_wp2_with fail
                                go_roundw
                                case rel =>
                                  refine ⟨j + 1, k6 + 2, cap, some ⟨gg, 0, none⟩, cs ++ [sy, ⟨6, n1, ka, kb, 0⟩], by omega, by go_num, by omega, Lib.hid ?_, Lib.hid ?_⟩
                                  · have h := PM.out.setN 6 (.slice (some ⟨gg, 0, none⟩) (k6 + 2) cap)
                                    rw [show (cs ++ [sy, ⟨6, n1, ka, kb, 0⟩]).flatMap stpC = (cs ++ [sy]).flatMap stpC ++ stpC ⟨6, n1, ka, kb, 0⟩ by simp [List.flatMap_append]]
                                    exact h
                                  · exact MX2.out _ (by rw [TS.out]; exact .cons (.more hka hkb .nil))
                                case measure => simp [intOf]; omega
                              · go_simp
                                refine hK.out _ _ (MKM.out _ (P30.out.grow ((Below.refl _ _).alloc (Nat.le_refl _) _)).below.drew) (fun hHeld => ?_)
                                clear hK K
                                try simp only [Act.put, List.setIfInBounds_toArray, List.set_cons_zero, List.set_cons_succ]
                                refine one_at (i := 1) (by kernel_rfl) rfl (fun K hK => ?_)
                                go_simp
                                (try simp only [d6A])
                                (try go_simp)
                                refine hK.out _ _ (by assumption) (fun hHeld => ?_)
                                clear hK K
                                try simp only [Act.put, List.setIfInBounds_toArray, List.set_cons_zero, List.set_cons_succ]
                                refine one_at (i := 23) (by kernel_rfl) rfl (fun K hK => ?_)
                                refine step_append_lies _ (by rfl) _ _ _ (by rfl) W.heap.size 31 i5 _ 5 40 Tryd.underlying24 hi5 hy0 hy1 hy2 rfl (by omega) _ (k6 + 1) ((cs ++ [sy]).flatMap stpC) (by rfl) ((P30.out.code.alloc _).drew) ⟨wz.heap.size, 0, none⟩ 1 1 (stpC ⟨6, n1, ka, kb, 0⟩) (by rfl) (by rfl) (World.news_of_block (cs := (stpC ⟨6, n1, ka, kb, 0⟩).toArray) (t := 31) (fr := (0, 0)) (heap_alloc_new wz _)) (by simp [stpC, Value.oneCell']) (by omega) (by unfold maxLen; omega) (by omega) (by have := P30.out.below.size; simp; omega) (wz.heap.size + 1) (by simp) ?_
                                intro gg cap w1 hown1 hgrow hat hlt1
                                have PM := Lib.hid (((P30.out.grow ((Below.refl _ _).alloc (Nat.le_refl _) _)).drew).more hgrow hown1)
                                have fg1 := blk_free PM.out.net
                                have dd := (net_cells PM.out.net).2.2.2.2.2.2
                                clear hown1 hgrow hat
                                refine hK.out _ _ (MKM.out _ PM.out.below) (fun hHeld => ?_)
                                clear hK K
                                try simp only [Act.put, List.setIfInBounds_toArray, List.set_cons_zero, List.set_cons_succ]
                                refine take_at (i := 24) (v := ?vv25) rfl (by kernel_rfl) (by kernel_rfl) (by kernel_rfl) (fun _ _ _ h => h) (Or.inl ⟨by rfl, ?hy25⟩) (by assumption) ?rest25
                                case hy25 => (intro w hSw; (try dsimp only at hSw); go_simp; try with_reducible rfl)
                                try simp only [Act.put, List.setIfInBounds_toArray, List.set_cons_zero, List.set_cons_succ]
                                refine one_at (i := 25) (by kernel_rfl) rfl (fun K hK => ?_)
                                go_simp
                                refine hK.out _ _ (MKM.out _ (PM.out.setN _ _).below) (fun hHeld => ?_)
                                clear hK K
                                try simp only [Act.put, List.setIfInBounds_toArray, List.set_cons_zero, List.set_cons_succ]
                                refine wpAnyH_done (by kernel_rfl) ?_ _
                                go_wp2_with fail
                                go_roundw
                                case rel =>
                                  refine ⟨j + 1, k6 + 2, cap, some ⟨gg, 0, none⟩, cs ++ [sy, ⟨6, n1, ka, kb, 0⟩], by omega, by go_num, by omega, Lib.hid ?_, Lib.hid ?_⟩
                                  · have h := PM.out.setN 6 (.slice (some ⟨gg, 0, none⟩) (k6 + 2) cap)
                                    rw [show (cs ++ [sy, ⟨6, n1, ka, kb, 0⟩]).flatMap stpC = (cs ++ [sy]).flatMap stpC ++ stpC ⟨6, n1, ka, kb, 0⟩ by simp [List.flatMap_append]]
                                    exact h
                                  · exact MX2.out _ (by rw [TS.out]; exact .cons (.more hka hkb .nil))
                                case measure => simp [intOf]; omega
                        · have n0' : decide ((j : Int) < (nx : Int)) = false := by simp; omega
                          go_wp2_with fail
                          go_roundw
                          case rel => exact ⟨j + 1, k6 + 1, c7, A7, cs ++ [sy], by omega, by go_num, by omega, P30, Lib.hid (MX2.out _ (by rw [TS.out]; exact .cons .nil))⟩
                          case measure => simp [intOf]; omega
              · obtain rfl : n6 = j := by omega
                have MF : Hid (Mixed n1 bq N.code cs) := Lib.hid (by
                  have h := MX.out
                  rw [List.take_of_length_le (by have := NW.out.i6.1; omega)] at h
                  exact h)
                have hb6 := N3.out.b6
                have hb5 := N3.out.b5
                have hb4 := N3.out.b4
                have hb2 := N3.out.b2
                have JN : Hid (judgeV ⟨((n1 + 1 : Nat) : Int), F, N.ins.map (toI n1 bq), N.outs.map (toI n1 bq), N.keeps.map (toI n1 bq), N.nums, cs⟩ = (0, -1)) := Lib.hid (judge_sim hbq JJ.out NW.out.i1.1 FL.out MF.out)
                have RS := Lib.hid (runs_sim hbq GD.out (N' := ⟨((n1 + 1 : Nat) : Int), F, N.ins.map (toI n1 bq), N.outs.map (toI n1 bq), N.keeps.map (toI n1 bq), N.nums, cs⟩) rfl rfl rfl MF.out R _ _ [] SIM.out)
                have HT := tells_ok (some ⟨gF, 0, none⟩) D2 D3 D4 A5 A6' (n1 + 1) (n1 + 1) n2 e2 n3 e3 n4 e4 n5 c5 k6 e6 _ B ni ci R wr (P.out.netAt FL.out (NW.out.i5.up P.out.below) (by omega) (by omega) (by omega) (by omega) (by omega) (by omega)) (GW.out.up P.out.below) JN.out (RW.out.up P.out.below) FW.out b3
                rw [RS.out] at HT
                simp only [Int.natCast_add, Int.cast_ofNat_Int] at HT
                have HTL := Lib.hid HT
                clear HT JN RS MX MF q0 q1 q2 q3 q4 q5
                obtain ⟨d0, d1, d2, d3, d4, d5, d6⟩ := net_cells P.out.net
                go_wp2_with (go_at_call 28; refine HTL.out.mono ?_; rintro r w9 ⟨OA', k', oc', hk', rfl, ho', hb'⟩; have BF := Lib.hid (below_up P.out.below hb'); have SN := sameNumsK_any OA' OA k' oc' ko oc _ _ w9 (own_ints ho').2.1 ((own_ints OW.out).2.1.up BF.out) (by omega); rw [sameB_refl] at SN; have SNL := Lib.hid SN; clear SN ho' hb')
                refine SNL.out.mono ?_
                rintro r w10 ⟨rfl, hb10⟩
                have BL := Lib.hid (below_up BW.out (below_up BF.out hb10))
                clear hb10
                go_wp2_with fail
                go_ret
                exact ⟨rfl, BL.out⟩
  · have JJ := Lib.hid hj
    clear hj
    go_wp2_with fail
    refine (tells_bad P A1 A2 A3 A4 A5 A6 n1 c1 n2 c2 n3 c3 n4 c4 n5 c5 n6 c6 N B ni ci w3 N3.out.toL (HG.out.up B3.out) JJ.out).mono ?_
    rintro r w4 ⟨rfl, hb4⟩
    have BB := Lib.hid (B3.out.trans (hb4.mono B3.out.size))
    clear hb4
    go_wp2_with fail
    go_ret
    exact ⟨rfl, BB.out⟩
end Go.Proofs.YtgglbjniclkkpaaDoor

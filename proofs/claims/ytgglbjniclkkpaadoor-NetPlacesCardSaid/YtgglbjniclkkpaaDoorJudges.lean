/-
  The law NetJudges: the walk.
-/
import Derived.Test.YtgglbjniclkkpaaDoorRefCheck
import Derived.Deep.RegionHeld3
namespace Go.Proofs.YtgglbjniclkkpaaDoor
open Go.RowKit
set_option linter.unusedVariables false

/-- Is code short enough to be held? -/
def heldB (P : Int) (n1 n2 n3 n4 n5 n6 : Nat) : Bool := decide (P ≤ 300 ∧ n1 ≤ 300 ∧ n2 ≤ 30 ∧ n3 ≤ 30 ∧ n4 ≤ 60 ∧ n5 ≤ 60 ∧ n6 ≤ 120)
set_option maxRecDepth 100000 in
set_option maxHeartbeats 2000000 in
theorem held_any (P : Int) (A1 A2 A3 A4 A5 A6 : Option Addr) (n1 c1 n2 c2 n3 c3 n4 c4 n5 c5 n6 c6 : Nat) (w : World) :
    Calls Tryd.prog 9 #[.agg #[.int .i64 P, .slice A1 n1 c1, .slice A2 n2 c2, .slice A3 n3 c3, .slice A4 n4 c4, .slice A5 n5 c5, .slice A6 n6 c6]] w fun r w' => r = .returned (.bool (heldB P n1 n2 n3 n4 n5 n6)) ∧ Below w.heap.size w w' := by
  go_enter Tryd.func9, Tryd.ntmps9
  go_wp2
  all_goals
    go_ret
    refine ⟨ret_bool ?_, (Below.refl _ _).alloc (Nat.le_refl _) _⟩
    unfold heldB
    apply Bool.eq_iff_iff.2
    simp only [decide_eq_true_eq, Bool.false_eq_true, false_iff]
    omega
theorem keepJ {w W W2 : World} {g b o : Nat} {A6 : Option Addr} {n6 c6 : Nat} {s : Stp}
    (h : W.cell? ⟨g, 6, none⟩ = some (.slice A6 n6 c6) ∧ W.cell? ⟨b, o, none⟩ = some (.int .i64 s.c) ∧ W.cell? ⟨b, o + 1, none⟩ = some (.int .i64 s.d) ∧ W.cell? ⟨b, o + 2, none⟩ = some (.int .i64 s.a) ∧ W.cell? ⟨b, o + 3, none⟩ = some (.int .i64 s.b) ∧ W.cell? ⟨b, o + 4, none⟩ = some (.int .i64 s.e) ∧ Below w.heap.size w W) (hb : Below W.heap.size W W2) :
    W2.cell? ⟨g, 6, none⟩ = some (.slice A6 n6 c6) ∧ W2.cell? ⟨b, o, none⟩ = some (.int .i64 s.c) ∧ W2.cell? ⟨b, o + 1, none⟩ = some (.int .i64 s.d) ∧ W2.cell? ⟨b, o + 2, none⟩ = some (.int .i64 s.a) ∧ W2.cell? ⟨b, o + 3, none⟩ = some (.int .i64 s.b) ∧ W2.cell? ⟨b, o + 4, none⟩ = some (.int .i64 s.e) ∧ Below w.heap.size w W2 :=
  ⟨cell_up hb h.1, cell_up hb h.2.1, cell_up hb h.2.2.1, cell_up hb h.2.2.2.1, cell_up hb h.2.2.2.2.1, cell_up hb h.2.2.2.2.2.1, below_up h.2.2.2.2.2.2 hb⟩
set_option maxRecDepth 100000 in
set_option maxHeartbeats 4000000 in
theorem judges_no (P : Int) (A1 A2 A3 A4 A5 A6 : Option Addr) (n1 c1 n2 c2 n3 c3 n4 c4 n5 c5 n6 c6 : Nat) (w : World) (hh : heldB P n1 n2 n3 n4 n5 n6 = false) :
    Calls Tryd.prog 3 #[.agg #[.int .i64 P, .slice A1 n1 c1, .slice A2 n2 c2, .slice A3 n3 c3, .slice A4 n4 c4, .slice A5 n5 c5, .slice A6 n6 c6]] w fun r w' => r = .returned (.bool true) ∧ Below w.heap.size w w' := by
  have HH := Lib.hid (held_any P A1 A2 A3 A4 A5 A6 n1 c1 n2 c2 n3 c3 n4 c4 n5 c5 n6 c6 (w.alloc (.cells #[.int .i64 P, .slice A1 n1 c1, .slice A2 n2 c2, .slice A3 n3 c3, .slice A4 n4 c4, .slice A5 n5 c5, .slice A6 n6 c6] 26)))
  rw [hh] at HH
  have HB := Lib.hid ((Below.refl w.heap.size w).alloc (Nat.le_refl _) (Obj.cells #[.int .i64 P, .slice A1 n1 c1, .slice A2 n2 c2, .slice A3 n3 c3, .slice A4 n4 c4, .slice A5 n5 c5, .slice A6 n6 c6] 26))
  go_enter Tryd.func3, Tryd.ntmps3
  go_wp2_with (go_at_call 9; refine HH.out.mono ?_; rintro r w1 ⟨rfl, hb1⟩)
  go_ret
  exact ⟨rfl, below_up HB.out hb1⟩
theorem keepC {w W W2 : World} {g : Nat} {P : Int} {A1 A2 A3 A4 A5 A6 : Option Addr} {n1 c1 n2 c2 n3 c3 n4 c4 n5 c5 n6 c6 : Nat} {N : NetP}
    (h : W.cell? ⟨g, 0, none⟩ = some (.int .i64 P) ∧ W.cell? ⟨g, 1, none⟩ = some (.slice A1 n1 c1) ∧ W.cell? ⟨g, 2, none⟩ = some (.slice A2 n2 c2) ∧ W.cell? ⟨g, 3, none⟩ = some (.slice A3 n3 c3) ∧ W.cell? ⟨g, 4, none⟩ = some (.slice A4 n4 c4) ∧ W.cell? ⟨g, 5, none⟩ = some (.slice A5 n5 c5) ∧ W.cell? ⟨g, 6, none⟩ = some (.slice A6 n6 c6) ∧ NetAt W P A1 A2 A3 A4 A5 A6 n1 c1 n2 c2 n3 c3 n4 c4 n5 c5 n6 c6 N ∧ HandleAt W ∧ FineAt W ∧ Below w.heap.size w W) (hb : Below W.heap.size W W2) : W2.cell? ⟨g, 0, none⟩ = some (.int .i64 P) ∧ W2.cell? ⟨g, 1, none⟩ = some (.slice A1 n1 c1) ∧ W2.cell? ⟨g, 2, none⟩ = some (.slice A2 n2 c2) ∧ W2.cell? ⟨g, 3, none⟩ = some (.slice A3 n3 c3) ∧ W2.cell? ⟨g, 4, none⟩ = some (.slice A4 n4 c4) ∧ W2.cell? ⟨g, 5, none⟩ = some (.slice A5 n5 c5) ∧ W2.cell? ⟨g, 6, none⟩ = some (.slice A6 n6 c6) ∧ NetAt W2 P A1 A2 A3 A4 A5 A6 n1 c1 n2 c2 n3 c3 n4 c4 n5 c5 n6 c6 N ∧ HandleAt W2 ∧ FineAt W2 ∧ Below w.heap.size w W2 :=
  ⟨cell_up hb h.1, cell_up hb h.2.1, cell_up hb h.2.2.1, cell_up hb h.2.2.2.1, cell_up hb h.2.2.2.2.1, cell_up hb h.2.2.2.2.2.1, cell_up hb h.2.2.2.2.2.2.1, h.2.2.2.2.2.2.2.1.up hb, h.2.2.2.2.2.2.2.2.1.up hb, ⟨cell_up hb h.2.2.2.2.2.2.2.2.2.1.1, cell_up hb h.2.2.2.2.2.2.2.2.2.1.2⟩, below_up h.2.2.2.2.2.2.2.2.2.2 hb⟩
theorem pickC {w W : World} {g : Nat} {P : Int} {A1 A2 A3 A4 A5 A6 : Option Addr} {n1 c1 n2 c2 n3 c3 n4 c4 n5 c5 n6 c6 : Nat} {N : NetP}
    (h : W.cell? ⟨g, 0, none⟩ = some (.int .i64 P) ∧ W.cell? ⟨g, 1, none⟩ = some (.slice A1 n1 c1) ∧ W.cell? ⟨g, 2, none⟩ = some (.slice A2 n2 c2) ∧ W.cell? ⟨g, 3, none⟩ = some (.slice A3 n3 c3) ∧ W.cell? ⟨g, 4, none⟩ = some (.slice A4 n4 c4) ∧ W.cell? ⟨g, 5, none⟩ = some (.slice A5 n5 c5) ∧ W.cell? ⟨g, 6, none⟩ = some (.slice A6 n6 c6) ∧ NetAt W P A1 A2 A3 A4 A5 A6 n1 c1 n2 c2 n3 c3 n4 c4 n5 c5 n6 c6 N ∧ HandleAt W ∧ FineAt W ∧ Below w.heap.size w W) : NetAt W P A1 A2 A3 A4 A5 A6 n1 c1 n2 c2 n3 c3 n4 c4 n5 c5 n6 c6 N ∧ HandleAt W ∧ FineAt W ∧ Below w.heap.size w W := h.2.2.2.2.2.2.2
theorem pickJ {w W : World} {g b o : Nat} {A6 : Option Addr} {n6 c6 : Nat} {s : Stp}
    (h : W.cell? ⟨g, 6, none⟩ = some (.slice A6 n6 c6) ∧ W.cell? ⟨b, o, none⟩ = some (.int .i64 s.c) ∧ W.cell? ⟨b, o + 1, none⟩ = some (.int .i64 s.d) ∧ W.cell? ⟨b, o + 2, none⟩ = some (.int .i64 s.a) ∧ W.cell? ⟨b, o + 3, none⟩ = some (.int .i64 s.b) ∧ W.cell? ⟨b, o + 4, none⟩ = some (.int .i64 s.e) ∧ Below w.heap.size w W) : Below w.heap.size w W := h.2.2.2.2.2.2
set_option maxRecDepth 100000 in
set_option maxHeartbeats 4000000 in
theorem judges_yes (P : Int) (A1 A2 A3 A4 A5 A6 : Option Addr) (n1 c1 n2 c2 n3 c3 n4 c4 n5 c5 n6 c6 : Nat) (N : NetP) (w : World) (h : NetAt w P A1 A2 A3 A4 A5 A6 n1 c1 n2 c2 n3 c3 n4 c4 n5 c5 n6 c6 N) (hg : HandleAt w) (hfi : FineAt w) (hh : heldB P n1 n2 n3 n4 n5 n6 = true) :
    Calls Tryd.prog 3 #[.agg #[.int .i64 P, .slice A1 n1 c1, .slice A2 n2 c2, .slice A3 n3 c3, .slice A4 n4 c4, .slice A5 n5 c5, .slice A6 n6 c6]] w fun r w' => r = .returned (.bool true) ∧ Below w.heap.size w w' := by
  have HH := Lib.hid (held_any P A1 A2 A3 A4 A5 A6 n1 c1 n2 c2 n3 c3 n4 c4 n5 c5 n6 c6 (w.alloc (.cells #[.int .i64 P, .slice A1 n1 c1, .slice A2 n2 c2, .slice A3 n3 c3, .slice A4 n4 c4, .slice A5 n5 c5, .slice A6 n6 c6] 26)))
  rw [hh] at HH
  have HB := Lib.hid ((Below.refl w.heap.size w).alloc (Nat.le_refl _) (Obj.cells #[.int .i64 P, .slice A1 n1 c1, .slice A2 n2 c2, .slice A3 n3 c3, .slice A4 n4 c4, .slice A5 n5 c5, .slice A6 n6 c6] 26))
  have HN := Lib.hid (fun w2 => ncells P A1 A2 A3 A4 A5 A6 n1 c1 n2 c2 n3 c3 n4 c4 n5 c5 n6 c6 w w2)
  have H := Lib.hid h
  have HG := Lib.hid hg
  have HF := Lib.hid hfi
  have b6 := h.b6
  clear h hg hfi hh
  go_enter Tryd.func3, Tryd.ntmps3
  go_wp2_with (go_at_call 9; refine HH.out.mono ?_; rintro r w1 ⟨rfl, hb1⟩)
  have B1 := Lib.hid (below_up HB.out hb1)
  have R1 := Lib.hid (HN.out w1 hb1)
  clear HH HB HN hb1
  go_loopw [3] (fun i wr => ∃ k : Nat, k ≤ n6 ∧ i = .int .i64 k ∧ Below w1.heap.size w1 wr) (fun i _ => n6 - (intOf i).toNat)
  case atStart => exact ⟨0, Nat.zero_le _, rfl, Below.refl _ _⟩
  case round =>
    obtain ⟨k, hk, rfl, hbr⟩ := hrel
    have RW := Lib.hid (R1.out.up hbr)
    have HBR := Lib.hid hbr
    have BW := Lib.hid (below_up B1.out hbr)
    have NW := Lib.hid (H.out.up BW.out)
    have r6 := RW.out.r6
    clear hbr
    by_cases hlt : k < n6
    · obtain ⟨b, o, rfl, hc⟩ := NW.out.i6.2 (by omega)
      obtain ⟨s, hs0, hs1, hs2, hs3, hs4, hs5⟩ := hc k hlt
      clear hc hs0
      have b0 := Lib.hid (Below.refl wr.heap.size wr)
      go_wp2_with fail
      go_region_held3 (fun w' => w'.cell? ⟨w.heap.size, 6, none⟩ = some (.slice (some ⟨b, o, none⟩) n6 c6) ∧ w'.cell? ⟨b, o + k * 5, none⟩ = some (.int .i64 s.c) ∧ w'.cell? ⟨b, o + k * 5 + 1, none⟩ = some (.int .i64 s.d) ∧ w'.cell? ⟨b, o + k * 5 + 2, none⟩ = some (.int .i64 s.a) ∧ w'.cell? ⟨b, o + k * 5 + 3, none⟩ = some (.int .i64 s.b) ∧ w'.cell? ⟨b, o + k * 5 + 4, none⟩ = some (.int .i64 s.e) ∧ Below wr.heap.size wr w')
        ((first | exact ⟨r6, hs1, hs2, hs3, hs4, hs5, b0.out.drew⟩ | assumption | exact keepJ (by assumption) (by assumption)))
        (first | (go_at_call 11; refine (asks_any s _).mono ?_; rintro r w' ⟨AA, ca, rfl, hca, hia, hba⟩) | (go_at_call 12; refine (refAsks_any s _).mono ?_; rintro r w' ⟨BB, cb, rfl, hcb, hib, hbb⟩) | (go_at_call 10; refine (sameInts_any _ _ _ _ _ _ (asksV s) (asksV s) _ ?_ ?_ ?_).mono ?_; (first | exact hia | exact hia.up hbb); (first | exact hib | exact hib.up hba); (have := arity_le s.c; omega); rw [sameB_refl]; rintro r w' ⟨rfl, hbc⟩))
      all_goals
        go_wp2_with fail
        go_roundw
        case rel => exact ⟨k + 1, by omega, by go_num, below_up HBR.out (pickJ (by assumption))⟩
        case measure => simp [intOf]; omega
    · obtain ⟨r0, r1, r2, r3, r4, r5, _⟩ := RW.out
      have hgw := HG.out.up BW.out
      have hfw : FineAt wr := ⟨cell_up BW.out HF.out.1, cell_up BW.out HF.out.2⟩
      have b0 := Lib.hid (Below.refl wr.heap.size wr)
      have hnw := NW.out
      have drw : wr.drew.cell? ⟨w.heap.size, 0, none⟩ = some (.int .i64 P) ∧ wr.drew.cell? ⟨w.heap.size, 1, none⟩ = some (.slice A1 n1 c1) ∧ wr.drew.cell? ⟨w.heap.size, 2, none⟩ = some (.slice A2 n2 c2) ∧ wr.drew.cell? ⟨w.heap.size, 3, none⟩ = some (.slice A3 n3 c3) ∧ wr.drew.cell? ⟨w.heap.size, 4, none⟩ = some (.slice A4 n4 c4) ∧ wr.drew.cell? ⟨w.heap.size, 5, none⟩ = some (.slice A5 n5 c5) ∧ wr.drew.cell? ⟨w.heap.size, 6, none⟩ = some (.slice A6 n6 c6) ∧ NetAt wr.drew P A1 A2 A3 A4 A5 A6 n1 c1 n2 c2 n3 c3 n4 c4 n5 c5 n6 c6 N ∧ HandleAt wr.drew ∧ FineAt wr.drew ∧ Below wr.heap.size wr wr.drew := ⟨r0, r1, r2, r3, r4, r5, r6, hnw.up (Below.refl wr.heap.size wr).drew, hgw, hfw, b0.out.drew⟩
      have HDRW := Lib.hid drw
      obtain ⟨J1, hJ1⟩ : ∃ j, j = (judgeV N).1 := ⟨_, rfl⟩
      obtain ⟨J2, hJ2⟩ : ∃ j, j = (judgeV N).2 := ⟨_, rfl⟩
      have hch := fun W h1 h2 => check_any P A1 A2 A3 A4 A5 A6 n1 c1 n2 c2 n3 c3 n4 c4 n5 c5 n6 c6 N W h1 h2
      have hrf := fun W h1 h2 => ref_any P A1 A2 A3 A4 A5 A6 n1 c1 n2 c2 n3 c3 n4 c4 n5 c5 n6 c6 N W h1 h2
      unfold GivesErr at hch
      unfold GivesFault at hrf
      rw [← hJ1, ← hJ2] at hch hrf
      have HCH := Lib.hid hch
      have HRF := Lib.hid hrf
      clear hgw hfw hnw drw hch hrf hJ1 hJ2
      go_wp2_with fail
      go_region_held3 (fun w' => w'.cell? ⟨w.heap.size, 0, none⟩ = some (.int .i64 P) ∧ w'.cell? ⟨w.heap.size, 1, none⟩ = some (.slice A1 n1 c1) ∧ w'.cell? ⟨w.heap.size, 2, none⟩ = some (.slice A2 n2 c2) ∧ w'.cell? ⟨w.heap.size, 3, none⟩ = some (.slice A3 n3 c3) ∧ w'.cell? ⟨w.heap.size, 4, none⟩ = some (.slice A4 n4 c4) ∧ w'.cell? ⟨w.heap.size, 5, none⟩ = some (.slice A5 n5 c5) ∧ w'.cell? ⟨w.heap.size, 6, none⟩ = some (.slice A6 n6 c6) ∧ NetAt w' P A1 A2 A3 A4 A5 A6 n1 c1 n2 c2 n3 c3 n4 c4 n5 c5 n6 c6 N ∧ HandleAt w' ∧ FineAt w' ∧ Below wr.heap.size wr w')
        ((first | exact HDRW.out | assumption | exact keepC (by assumption) (by assumption)))
        (first | (go_at_call 14; refine (HCH.out _ ?_ ?_).mono ?_; exact (pickC (by assumption)).1; exact (pickC (by assumption)).2.1; rintro r w' ⟨v, rfl, hev, hbv⟩) | (go_at_call 15; refine (HRF.out _ ?_ ?_).mono ?_; exact (pickC (by assumption)).1; exact (pickC (by assumption)).2.2.1; rintro r w' ⟨rfl, hbf⟩) | (go_at_call 13; refine (is_any _ J1 J2 J1 J2 _ ?_ ?_).mono ?_; exact (pickC (by assumption)).2.1; (first | exact hev | exact hev.up hbf); rw [beq_self_eq_true, beq_self_eq_true]; rintro r w' ⟨rfl, hbi⟩))
      all_goals
        go_wp2_with fail
        go_ret
        exact ⟨rfl, below_up BW.out (pickC (by assumption)).2.2.2⟩
end Go.Proofs.YtgglbjniclkkpaaDoor

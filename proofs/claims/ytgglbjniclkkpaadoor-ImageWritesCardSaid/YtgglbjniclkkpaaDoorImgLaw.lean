/-
  The law ImageWrites: the walk.
-/
import Derived.Test.YtgglbjniclkkpaaDoorJudges
import Derived.Test.YtgglbjniclkkpaaDoorImgWrite
import Derived.Test.YtgglbjniclkkpaaDoorRefWrite
namespace Go.Proofs.YtgglbjniclkkpaaDoor
open Go.RowKit
set_option linter.unusedVariables false

/-- What both write. -/
def bytesV (N : NetP) : List UInt8 := if (judgeV N).1 = 0 then imageV N else []
theorem write_any (P : Int) (A1 A2 A3 A4 A5 A6 : Option Addr) (n1 c1 n2 c2 n3 c3 n4 c4 n5 c5 n6 c6 : Nat) (N : NetP) (w : World) (h : NetAt w P A1 A2 A3 A4 A5 A6 n1 c1 n2 c2 n3 c3 n4 c4 n5 c5 n6 c6 N) (hok : OkNet N) (hg : HandleAt w) :
    Calls Tryd.prog 17 #[.agg #[.int .i64 P, .slice A1 n1 c1, .slice A2 n2 c2, .slice A3 n3 c3, .slice A4 n4 c4, .slice A5 n5 c5, .slice A6 n6 c6]] w fun r w' => ∃ v, r = .returned (.tuple #[.string ⟨(bytesV N).toArray⟩, v]) ∧ ErrAt w' v (judgeV N).1 (judgeV N).2 ∧ Below w.heap.size w w' := by
  unfold bytesV
  by_cases hj : (judgeV N).1 = 0
  · rw [if_pos hj]
    exact (write_ok P A1 A2 A3 A4 A5 A6 n1 c1 n2 c2 n3 c3 n4 c4 n5 c5 n6 c6 N w h hok hg hj).mono fun r w' ⟨e, hb⟩ => ⟨_, e, .inl ⟨rfl, hj, judge_fine hj⟩, hb⟩
  · rw [if_neg hj]
    exact write_bad P A1 A2 A3 A4 A5 A6 n1 c1 n2 c2 n3 c3 n4 c4 n5 c5 n6 c6 N w h hg hj
theorem refWrite_any (P : Int) (A1 A2 A3 A4 A5 A6 : Option Addr) (n1 c1 n2 c2 n3 c3 n4 c4 n5 c5 n6 c6 : Nat) (N : NetP) (w : World) (h : NetAt w P A1 A2 A3 A4 A5 A6 n1 c1 n2 c2 n3 c3 n4 c4 n5 c5 n6 c6 N) (hok : OkNet N) (hfi : FineAt w) :
    Calls Tryd.prog 16 #[.agg #[.int .i64 P, .slice A1 n1 c1, .slice A2 n2 c2, .slice A3 n3 c3, .slice A4 n4 c4, .slice A5 n5 c5, .slice A6 n6 c6]] w fun r w' => r = .returned (.tuple #[.string ⟨(bytesV N).toArray⟩, .agg #[.int .i64 (judgeV N).1, .int .i64 (judgeV N).2]]) ∧ Below w.heap.size w w' := by
  unfold bytesV
  by_cases hj : (judgeV N).1 = 0
  · rw [if_pos hj, judge_fine hj, hj]
    exact refWrite_ok P A1 A2 A3 A4 A5 A6 n1 c1 n2 c2 n3 c3 n4 c4 n5 c5 n6 c6 N w h hok hfi hj
  · rw [if_neg hj]
    exact refWrite_bad P A1 A2 A3 A4 A5 A6 n1 c1 n2 c2 n3 c3 n4 c4 n5 c5 n6 c6 N w h hfi hj
set_option maxRecDepth 100000 in
set_option maxHeartbeats 4000000 in
theorem imgLaw_no (P : Int) (A1 A2 A3 A4 A5 A6 : Option Addr) (n1 c1 n2 c2 n3 c3 n4 c4 n5 c5 n6 c6 : Nat) (w : World) (hh : heldB P n1 n2 n3 n4 n5 n6 = false) :
    Calls Tryd.prog 4 #[.agg #[.int .i64 P, .slice A1 n1 c1, .slice A2 n2 c2, .slice A3 n3 c3, .slice A4 n4 c4, .slice A5 n5 c5, .slice A6 n6 c6]] w fun r w' => r = .returned (.bool true) ∧ Below w.heap.size w w' := by
  have HH := Lib.hid (held_any P A1 A2 A3 A4 A5 A6 n1 c1 n2 c2 n3 c3 n4 c4 n5 c5 n6 c6 (w.alloc (.cells #[.int .i64 P, .slice A1 n1 c1, .slice A2 n2 c2, .slice A3 n3 c3, .slice A4 n4 c4, .slice A5 n5 c5, .slice A6 n6 c6] 26)))
  rw [hh] at HH
  have HB := Lib.hid ((Below.refl w.heap.size w).alloc (Nat.le_refl _) (Obj.cells #[.int .i64 P, .slice A1 n1 c1, .slice A2 n2 c2, .slice A3 n3 c3, .slice A4 n4 c4, .slice A5 n5 c5, .slice A6 n6 c6] 26))
  go_enter Tryd.func4, Tryd.ntmps4
  go_wp2_with (go_at_call 9; refine HH.out.mono ?_; rintro r w1 ⟨rfl, hb1⟩)
  go_ret
  exact ⟨rfl, below_up HB.out hb1⟩
set_option maxRecDepth 100000 in
set_option maxHeartbeats 4000000 in
theorem imgLaw_yes (P : Int) (A1 A2 A3 A4 A5 A6 : Option Addr) (n1 c1 n2 c2 n3 c3 n4 c4 n5 c5 n6 c6 : Nat) (N : NetP) (w : World) (h : NetAt w P A1 A2 A3 A4 A5 A6 n1 c1 n2 c2 n3 c3 n4 c4 n5 c5 n6 c6 N) (hok : OkNet N) (hg : HandleAt w) (hfi : FineAt w) (hh : heldB P n1 n2 n3 n4 n5 n6 = true) :
    Calls Tryd.prog 4 #[.agg #[.int .i64 P, .slice A1 n1 c1, .slice A2 n2 c2, .slice A3 n3 c3, .slice A4 n4 c4, .slice A5 n5 c5, .slice A6 n6 c6]] w fun r w' => r = .returned (.bool true) ∧ Below w.heap.size w w' := by
  have HH := Lib.hid (held_any P A1 A2 A3 A4 A5 A6 n1 c1 n2 c2 n3 c3 n4 c4 n5 c5 n6 c6 (w.alloc (.cells #[.int .i64 P, .slice A1 n1 c1, .slice A2 n2 c2, .slice A3 n3 c3, .slice A4 n4 c4, .slice A5 n5 c5, .slice A6 n6 c6] 26)))
  rw [hh] at HH
  have HB := Lib.hid ((Below.refl w.heap.size w).alloc (Nat.le_refl _) (Obj.cells #[.int .i64 P, .slice A1 n1 c1, .slice A2 n2 c2, .slice A3 n3 c3, .slice A4 n4 c4, .slice A5 n5 c5, .slice A6 n6 c6] 26))
  have HN := Lib.hid (fun w2 => ncells P A1 A2 A3 A4 A5 A6 n1 c1 n2 c2 n3 c3 n4 c4 n5 c5 n6 c6 w w2)
  have H := Lib.hid h
  have HG := Lib.hid hg
  have HF := Lib.hid hfi
  have HO := Lib.hid hok
  obtain ⟨J1, hJ1⟩ : ∃ j, j = (judgeV N).1 := ⟨_, rfl⟩
  obtain ⟨J2, hJ2⟩ : ∃ j, j = (judgeV N).2 := ⟨_, rfl⟩
  obtain ⟨S, hS⟩ : ∃ s : ByteArray, s = ⟨(bytesV N).toArray⟩ := ⟨_, rfl⟩
  have hwr := fun W h1 h2 => write_any P A1 A2 A3 A4 A5 A6 n1 c1 n2 c2 n3 c3 n4 c4 n5 c5 n6 c6 N W h1 hok h2
  have hrf := fun W h1 h2 => refWrite_any P A1 A2 A3 A4 A5 A6 n1 c1 n2 c2 n3 c3 n4 c4 n5 c5 n6 c6 N W h1 hok h2
  rw [← hJ1, ← hJ2, ← hS] at hwr hrf
  have HW := Lib.hid hwr
  have HR := Lib.hid hrf
  clear h hok hg hfi hh hwr hrf hJ1 hJ2 hS
  go_enter Tryd.func4, Tryd.ntmps4
  go_wp2_with (go_at_call 9; refine HH.out.mono ?_; rintro r w1 ⟨rfl, hb1⟩; obtain ⟨r0, r1, r2, r3, r4, r5, r6⟩ := HN.out w1 hb1)
  have B1 := Lib.hid (below_up HB.out hb1)
  have HR1 := Lib.hid (HR.out w1 (H.out.up B1.out) ⟨cell_up B1.out HF.out.1, cell_up B1.out HF.out.2⟩)
  go_wp2_with (go_at_call 16; (with_reducible refine HR1.out.mono ?_); rintro r w2 ⟨rfl, hb2⟩; have u3 := (Below.refl w2.heap.size w2).alloc (Nat.le_refl _) (Obj.cells #[.int .i64 J1, .int .i64 J2] 38); obtain ⟨q0, q1, q2, q3, q4, q5, q6⟩ := HN.out _ (below_up hb1 (below_up hb2 u3)))
  have B3 := Lib.hid (below_up B1.out (below_up hb2 u3))
  have HW1 := Lib.hid (HW.out _ (H.out.up B3.out) (HG.out.up B3.out))
  have K0 : Hid ((w2.alloc (.cells #[.int .i64 J1, .int .i64 J2] 38)).cell? ⟨w2.heap.size, 0, none⟩ = some (.int .i64 J1) ∧ (w2.alloc (.cells #[.int .i64 J1, .int .i64 J2] 38)).cell? ⟨w2.heap.size, 1, none⟩ = some (.int .i64 J2)) := Lib.hid ⟨by simp [go_sem], by simp [go_sem]⟩
  clear hb2 u3 r0 r1 r2 r3 r4 r5 r6
  go_wp2_with (go_at_call 17; (with_reducible refine HW1.out.mono ?_); rintro r w4 ⟨v, rfl, hev, hb4⟩; have k0 := cell_up hb4 K0.out.1; have k1 := cell_up hb4 K0.out.2)
  have B4 := Lib.hid (below_up B3.out hb4)
  have HI := Lib.hid (is_any v J1 J2 J1 J2 w4 (HG.out.up B4.out) hev)
  rw [beq_self_eq_true, beq_self_eq_true] at HI
  clear hb4 hev
  go_wp2_with (go_at_call 13; (with_reducible refine HI.out.mono ?_); rintro r w5 ⟨rfl, hb5⟩)
  go_ret
  exact ⟨by simp, below_up B4.out hb5⟩
end Go.Proofs.YtgglbjniclkkpaaDoor

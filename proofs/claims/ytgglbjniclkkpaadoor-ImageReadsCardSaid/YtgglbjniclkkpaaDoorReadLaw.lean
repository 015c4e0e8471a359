/-
  Code that bytes are: the law's walk.
-/
import Derived.Test.YtgglbjniclkkpaaDoorRefRead
import Derived.Test.YtgglbjniclkkpaaDoorSameNet
namespace Go.Proofs.YtgglbjniclkkpaaDoor
open Go.RowKit
set_option linter.unusedVariables false

theorem readV_none {l : List UInt8} (h : headB l = false) : readV l = none := by unfold readV; rw [if_neg (by rw [h]; simp)]
theorem ReadOut.form (w w' : World) (hb : Below w.heap.size w w') : ReadOut w (ansV none) (.returned (.tuple #[.agg #[.int .i64 0, .slice none 0 0, .slice none 0 0, .slice none 0 0, .slice none 0 0, .slice none 0 0, .slice none 0 0], .iface 36 (.int .i64 3)])) w' :=
  ⟨0, none, none, none, none, none, none, 0, 0, 0, 0, 0, 0, 0, 0, 0, 0, 0, 0, _, rfl, .inr (.inl ⟨rfl, rfl, by decide⟩), zeroAt _, hb⟩
theorem RefOut.form (w w' : World) (hb : Below w.heap.size w w') : RefOut w (ansV none) (.returned (.tuple #[.agg #[.int .i64 0, .slice none 0 0, .slice none 0 0, .slice none 0 0, .slice none 0 0, .slice none 0 0, .slice none 0 0], .agg #[.int .i64 3, .int .i64 (-1)]])) w' :=
  ⟨0, none, none, none, none, none, none, 0, 0, 0, 0, 0, 0, 0, 0, 0, 0, 0, 0, rfl, zeroAt _, hb⟩
set_option maxHeartbeats 4000000 in
set_option maxRecDepth 100000 in
theorem imgRead_none (s : ByteArray) (w : World) (hh : headB s.data.toList = false) : Calls Tryd.prog 19 #[.string s] w (ReadOut w (ansV none)) := by
  by_cases h4 : 4 ≤ s.size
  · have hz : (4 : Int) ≤ s.size := by omega
    have hx : ¬ s.extract 0 4 = ⟨#[67, 76, 80, 49]⟩ := fun h => by rw [head_is.2 ⟨h4, h⟩] at hh; cases hh
    have hx2 : ¬ (s.extract 0 4).toList = [67, 76, 80, 49] := by rw [ByteArray.toList_eq]; exact fun h => hx (ByteArray.ext (Array.toList_inj.1 h))
    have hx3 : ((s.extract 0 4).toList == [67, 76, 80, 49]) = false := beq_eq_false_iff_ne.2 hx2
    go_enter Tryd.func19, Tryd.ntmps19
    go_wp2_with fail
    exact bodyPost_ret (v := .tuple #[.agg #[.int .i64 0, .slice none 0 0, .slice none 0 0, .slice none 0 0, .slice none 0 0, .slice none 0 0, .slice none 0 0], .iface 36 (.int .i64 3)]) (by simp [results, Tryd.results19, go_sem]) rfl (ReadOut.form w _ (by first | exact (Below.refl _ _).alloc (Nat.le_refl _) _ | exact below_grow ((Below.refl _ _).alloc (Nat.le_refl _) _) (sets_grown _ _ _ _ _ _ _ _ _) (Nat.le_refl _)))
  · have hz : (s.size : Int) < 4 := by omega
    go_enter Tryd.func19, Tryd.ntmps19
    go_wp2_with fail
    exact bodyPost_ret (v := .tuple #[.agg #[.int .i64 0, .slice none 0 0, .slice none 0 0, .slice none 0 0, .slice none 0 0, .slice none 0 0, .slice none 0 0], .iface 36 (.int .i64 3)]) (by simp [results, Tryd.results19, go_sem]) rfl (ReadOut.form w _ (by first | exact (Below.refl _ _).alloc (Nat.le_refl _) _ | exact below_grow ((Below.refl _ _).alloc (Nat.le_refl _) _) (sets_grown _ _ _ _ _ _ _ _ _) (Nat.le_refl _)))
set_option maxHeartbeats 4000000 in
set_option maxRecDepth 100000 in
theorem refRead_none (s : ByteArray) (w : World) (hh : headB s.data.toList = false) : Calls Tryd.prog 18 #[.string s] w (RefOut w (ansV none)) := by
  go_enter Tryd.func18, Tryd.ntmps18
  go_wp2_with fail
  refine (prefix_any s _).mono ?_
  rintro r w1 ⟨rfl, hb1⟩
  rw [hh]
  have h0 := (((Below.refl w.heap.size w).alloc (Nat.le_refl _) (.cells #[.int .i64 0, .slice none 0 0, .slice none 0 0, .slice none 0 0, .slice none 0 0, .slice none 0 0, .slice none 0 0] 26)).alloc (by simp) (.cells #[.int .i64 0, .int .i64 0] 38))
  go_wp2_with fail
  refine (bare_any 3 _).mono ?_
  rintro r w2 ⟨rfl, hb2⟩
  have hb := hb1.trans (hb2.mono hb1.size)
  have hz := grown_blk (grown_below none hb) (heap_alloc2_old w (.cells #[.int .i64 0, .slice none 0 0, .slice none 0 0, .slice none 0 0, .slice none 0 0, .slice none 0 0, .slice none 0 0] 26) (.cells #[.int .i64 0, .int .i64 0] 38)) (by simp)
  have hf := grown_blk (grown_below none hb) (heap_alloc2_new w (.cells #[.int .i64 0, .slice none 0 0, .slice none 0 0, .slice none 0 0, .slice none 0 0, .slice none 0 0, .slice none 0 0] 26) (.cells #[.int .i64 0, .int .i64 0] 38)) (by simp)
  have B2 := Lib.hid (h0.trans (hb.mono h0.size))
  obtain ⟨r0, r1, r2, r3, r4, r5, r6⟩ := net_cells hz
  have rf := blk_free hz
  obtain ⟨s0, s1⟩ := two_cells hf
  have sf := blk_free hf
  clear h0 hb1 hb2 hb hz hf
  go_wp2_with fail
  exact bodyPost_ret (v := .tuple #[.agg #[.int .i64 0, .slice none 0 0, .slice none 0 0, .slice none 0 0, .slice none 0 0, .slice none 0 0, .slice none 0 0], .agg #[.int .i64 3, .int .i64 (-1)]]) (by simp [results, Tryd.results18, go_sem, r0, r1, r2, r3, r4, r5, r6, s0, s1]) rfl (RefOut.form w _ (below_grow (below_grow B2.out (sets_grown _ _ _ _ _ _ _ _ _) (Nat.le_refl _)) (grown_set (grown_set (grown_refl _ _) _) _) (Nat.le_succ _)))
theorem imgRead_all (s : ByteArray) (hs : s.size ≤ 1500) (w : World) (hg : HandleAt w) : Calls Tryd.prog 19 #[.string s] w (ReadOut w (ansV (readV s.data.toList))) := by
  cases hh : headB s.data.toList
  · rw [readV_none hh]; exact imgRead_none s w hh
  · exact imgRead_any s hs w hg hh
theorem refRead_all (s : ByteArray) (hs : s.size ≤ 1500) (w : World) (hg : FineAt w) : Calls Tryd.prog 18 #[.string s] w (RefOut w (ansV (readV s.data.toList))) := by
  cases hh : headB s.data.toList
  · rw [readV_none hh]; exact refRead_none s w hh
  · exact refRead_any s hs w hg hh
set_option maxRecDepth 100000 in
theorem readLaw_no (s : ByteArray) (w : World) (hs : ¬ s.size ≤ 1500) : Calls Tryd.prog 5 #[.string s] w fun r w' => r = .returned (.bool true) ∧ Below w.heap.size w w' := by
  have hz : (1500 : Int) < s.size := by omega
  go_enter Tryd.func5, Tryd.ntmps5
  go_wp2
  go_ret
  exact ⟨rfl, Below.refl _ _⟩
set_option maxHeartbeats 4000000 in
set_option maxRecDepth 100000 in
theorem readLaw_yes (s : ByteArray) (w : World) (hs : s.size ≤ 1500) (hg : HandleAt w) (hfi : FineAt w) : Calls Tryd.prog 5 #[.string s] w fun r w' => r = .returned (.bool true) ∧ Below w.heap.size w w' := by
  have hz : (s.size : Int) ≤ 1500 := by omega
  have HR := Lib.hid (refRead_all s hs w hfi)
  have HI := Lib.hid (fun W h => imgRead_all s hs W h)
  have HG := Lib.hid hg
  obtain ⟨an, han⟩ : ∃ an, an = ansV (readV s.data.toList) := ⟨_, rfl⟩
  rw [← han] at HR HI
  clear hs hg hfi han
  go_enter Tryd.func5, Tryd.ntmps5
  go_wp2_with fail
  refine HR.out.mono ?_
  rintro r w1 ⟨P, A1, A2, A3, A4, A5, A6, n1, c1, n2, c2, n3, c3, n4, c4, n5, c5, n6, c6, rfl, hn1, hb1⟩
  have x1 := (Below.refl w1.heap.size w1).alloc (Nat.le_refl _) (Obj.cells #[.int .i64 P, .slice A1 n1 c1, .slice A2 n2 c2, .slice A3 n3 c3, .slice A4 n4 c4, .slice A5 n5 c5, .slice A6 n6 c6] 26)
  have x2 := x1.alloc (by simp) (Obj.cells #[.int .i64 an.1.1, .int .i64 an.1.2] 38)
  have k1 := heap_alloc2_old w1 (Obj.cells #[.int .i64 P, .slice A1 n1 c1, .slice A2 n2 c2, .slice A3 n3 c3, .slice A4 n4 c4, .slice A5 n5 c5, .slice A6 n6 c6] 26) (Obj.cells #[.int .i64 an.1.1, .int .i64 an.1.2] 38)
  have k2 := heap_alloc2_new w1 (Obj.cells #[.int .i64 P, .slice A1 n1 c1, .slice A2 n2 c2, .slice A3 n3 c3, .slice A4 n4 c4, .slice A5 n5 c5, .slice A6 n6 c6] 26) (Obj.cells #[.int .i64 an.1.1, .int .i64 an.1.2] 38)
  have N1 := Lib.hid (hn1.up x2)
  have B1 := Lib.hid (below_up hb1 x2)
  have K1 := Lib.hid k1
  have K2 := Lib.hid k2
  clear hn1 hb1 x1 x2 k1 k2
  go_upto_region 4 with fail
  obtain ⟨z, hz'⟩ : ∃ z, z = w1.heap.size := ⟨_, rfl⟩
  obtain ⟨W2, hW2⟩ : ∃ W, W = (w1.alloc (Obj.cells #[.int .i64 P, .slice A1 n1 c1, .slice A2 n2 c2, .slice A3 n3 c3, .slice A4 n4 c4, .slice A5 n5 c5, .slice A6 n6 c6] 26)).alloc (Obj.cells #[.int .i64 an.1.1, .int .i64 an.1.2] 38) := ⟨_, rfl⟩
  rw [← hW2] at N1 B1 K1 K2 ⊢
  rw [← hz'] at K1 K2 ⊢
  clear hW2 hz'
  go_wp2_with fail
  refine (HI.out W2 (HG.out.up B1.out)).mono ?_
  rintro r w3 ⟨P', D1, D2, D3, D4, D5, D6, m1, e1, m2, e2, m3, e3, m4, e4, m5, e5, m6, e6, v, rfl, hev, hn2, hb3⟩
  have x1 := (Below.refl w3.heap.size w3).alloc (Nat.le_refl _) (Obj.cells #[.int .i64 P', .slice D1 m1 e1, .slice D2 m2 e2, .slice D3 m3 e3, .slice D4 m4 e4, .slice D5 m5 e5, .slice D6 m6 e6] 26)
  have j0 := heap_alloc_new w3 (Obj.cells #[.int .i64 P', .slice D1 m1 e1, .slice D2 m2 e2, .slice D3 m3 e3, .slice D4 m4 e4, .slice D5 m5 e5, .slice D6 m6 e6] 26)
  have J0 := Lib.hid j0
  have N3 := Lib.hid (N1.out.up (below_up hb3 x1))
  have M3 := Lib.hid (hn2.up x1)
  have B3 := Lib.hid (below_up B1.out (below_up hb3 x1))
  have E3 := Lib.hid (hev.up x1)
  have k1 := grown_blk (grown_below none (below_up hb3 x1)) K1.out (by simp)
  have k2 := grown_blk (grown_below none (below_up hb3 x1)) K2.out (by simp)
  have L1 := Lib.hid k1
  have L2 := Lib.hid k2
  clear hn2 hb3 x1 k1 k2 K1 K2 N1 B1 hev j0
  go_upto_region 5 with fail
  obtain ⟨y, hy⟩ : ∃ y, y = w3.heap.size := ⟨_, rfl⟩
  obtain ⟨W4, hW4⟩ : ∃ W, W = w3.alloc (Obj.cells #[.int .i64 P', .slice D1 m1 e1, .slice D2 m2 e2, .slice D3 m3 e3, .slice D4 m4 e4, .slice D5 m5 e5, .slice D6 m6 e6] 26) := ⟨_, rfl⟩
  rw [← hW4] at N3 M3 B3 E3 L1 L2 J0 ⊢
  rw [← hy] at J0 ⊢
  clear hW4 hy
  obtain ⟨f0, f1⟩ := two_cells L2.out
  go_wp2_with fail
  have HI2 := Lib.hid (is_any v an.1.1 an.1.2 an.1.1 an.1.2 W4 (HG.out.up B3.out) E3.out)
  rw [beq_self_eq_true, beq_self_eq_true] at HI2
  refine HI2.out.mono ?_
  rintro r w5 ⟨rfl, hb5⟩
  have k1 := grown_blk (grown_below none hb5) L1.out (by simp)
  have k3 := grown_blk (grown_below none hb5) J0.out (by simp)
  obtain ⟨r0, r1, r2, r3, r4, r5, r6⟩ := net_cells k1
  obtain ⟨q0, q1, q2, q3, q4, q5, q6⟩ := net_cells k3
  have N5 := Lib.hid (N3.out.up hb5)
  have M5 := Lib.hid (M3.out.up hb5)
  have B5 := Lib.hid (below_up B3.out hb5)
  clear k1 k3 hb5 f0 f1
  go_wp2_with fail
  refine (sameNet_any _ _ _ _ _ _ _ _ _ _ _ _ _ _ _ _ _ _ _ _ _ _ _ _ _ _ _ _ _ _ _ _ _ _ _ _ _ _ an.2 _ M5.out N5.out).mono ?_
  rintro r w6 ⟨rfl, hb6⟩
  go_wp2_with fail
  go_ret
  exact ⟨rfl, below_up B5.out hb6⟩
end Go.Proofs.YtgglbjniclkkpaaDoor

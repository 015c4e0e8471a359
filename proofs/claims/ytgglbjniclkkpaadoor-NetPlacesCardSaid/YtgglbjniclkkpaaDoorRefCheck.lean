/-
  ref.CheckNet: whether code may be, or what is wrong, as the document has it.
-/
import Derived.Test.YtgglbjniclkkpaaDoorCheck
import Derived.Deep.Cut
namespace Go.Proofs.YtgglbjniclkkpaaDoor
open Go.RowKit
set_option linter.unusedVariables false

/-- It hands back the fault e at p. -/
def GivesFault (w : World) (j : Int × Int) (r : Ending) (w' : World) : Prop := r = .returned (.agg #[.int .i64 j.1, .int .i64 j.2]) ∧ Below w.heap.size w w'
theorem bare_any (e : Int) (w : World) : Calls Tryd.prog 44 #[.int .i64 e] w (GivesFault w (e, -1)) := by
  go_enter Tryd.func44, Tryd.ntmps44
  go_wp2
  exact bodyPost_ret (v := .agg #[.int .i64 e, .int .i64 (-1)]) (by simp [results, Tryd.results44, go_sem]) rfl ⟨rfl, (Below.refl _ _).alloc (Nat.le_refl _) _⟩
theorem place_eq (P x : Int) : (decide (0 ≤ x) && decide (x ≤ P - 1)) = placeB P x := by
  unfold placeB
  rw [show decide (x ≤ P - 1) = decide (x < P) by rw [decide_eq_decide]; omega]
set_option maxHeartbeats 1000000 in
theorem place_ref (P : Int) (g : Nat) (x : Int) (w : World) (p0 : P ≤ 300) (h0 : 0 ≤ P) (hc : w.cell? ⟨g, 0, none⟩ = some (.int .i64 P)) :
    Calls Tryd.prog 45 #[.int .i64 x, .pointer (some ⟨g, 0, none⟩)] w fun e w' => e = .returned (.bool (placeB P x)) ∧ w = w' := by
  have hx := in_any x 0 (P - 1) w
  rw [place_eq] at hx
  go_enter Tryd.func45, Tryd.ntmps45
  go_wp2_with (go_at_call 37; refine hx.mono ?_; rintro r w' ⟨rfl, rfl⟩)
  go_ret
  exact ⟨rfl, rfl⟩
/-- The three lists of places. -/
theorem idx3 (A B C : Option Addr) (n c m d k e : Nat) (w : World) : ((Instr.index 80 (.agg #[.slice A n c, .slice B m d, .slice C k e]) (.int .i64 0)).run Tryd.prog w = .ok (.slice A n c) w) ∧ ((Instr.index 80 (.agg #[.slice A n c, .slice B m d, .slice C k e]) (.int .i64 1)).run Tryd.prog w = .ok (.slice B m d) w) ∧ ((Instr.index 80 (.agg #[.slice A n c, .slice B m d, .slice C k e]) (.int .i64 2)).run Tryd.prog w = .ok (.slice C k e) w) := ⟨by kernel_rfl, by kernel_rfl, by kernel_rfl⟩
/-- The fault that is none, as it lies in memory. -/
def FineAt (w : World) : Prop := w.cell? ⟨0, 0, none⟩ = some (.int .i64 0) ∧ w.cell? ⟨0, 1, none⟩ = some (.int .i64 (-1))
/-- The result's own variable. -/
structure RCell (w : World) (g : Nat) : Prop where
  v0 : w.cell? ⟨g, 0, none⟩ = some (.int .i64 0)
  v1 : w.cell? ⟨g, 1, none⟩ = some (.int .i64 0)
  z0 : w.frozen? ⟨g, 0, none⟩ = false
  z1 : w.frozen? ⟨g, 1, none⟩ = false
  lt : g < w.heap.size
theorem RCell.up {w W : World} {g : Nat} (h : RCell w g) (hb : Below w.heap.size w W) : RCell W g :=
  ⟨cell_up hb h.v0, cell_up hb h.v1, (hb.frozen h.lt).trans h.z0, (hb.frozen h.lt).trans h.z1, Nat.lt_of_lt_of_le h.lt hb.size⟩
theorem rcell (w : World) (o : Obj) : RCell ((w.alloc o).alloc (.cells #[.int .i64 0, .int .i64 0] 38)) (w.heap.size + 1) :=
  ⟨by simp [go_sem], by simp [go_sem], by simp [go_sem], by simp [go_sem], by simp [go_sem]⟩

set_option maxRecDepth 100000 in
set_option maxHeartbeats 4000000 in
theorem ref_neg (P : Int) (A1 A2 A3 A4 A5 A6 : Option Addr) (n1 c1 n2 c2 n3 c3 n4 c4 n5 c5 n6 c6 : Nat) (N : NetP) (w : World) (h : NetAt w P A1 A2 A3 A4 A5 A6 n1 c1 n2 c2 n3 c3 n4 c4 n5 c5 n6 c6 N) (hfi : FineAt w) (hneg : P < 0) :
    Calls Tryd.prog 15 #[.agg #[.int .i64 P, .slice A1 n1 c1, .slice A2 n2 c2, .slice A3 n3 c3, .slice A4 n4 c4, .slice A5 n5 c5, .slice A6 n6 c6]] w (GivesFault w (4, -1)) := by
  obtain ⟨hp, i1, i2, i3, i4, i5, i6, p0, b1, b2, b3, b4, b5, b6, k2⟩ := h
  have I2 := Lib.hid i2
  have I3 := Lib.hid i3
  have I4 := Lib.hid i4
  have I6 := Lib.hid i6
  have HN := Lib.hid (fun w2 => ncells P A1 A2 A3 A4 A5 A6 n1 c1 n2 c2 n3 c3 n4 c4 n5 c5 n6 c6 w w2)
  have HB := Lib.hid ((Below.refl w.heap.size w).alloc (Nat.le_refl _) (Obj.cells #[.int .i64 P, .slice A1 n1 c1, .slice A2 n2 c2, .slice A3 n3 c3, .slice A4 n4 c4, .slice A5 n5 c5, .slice A6 n6 c6] 26))
  have HR := Lib.hid (rcell w (Obj.cells #[.int .i64 P, .slice A1 n1 c1, .slice A2 n2 c2, .slice A3 n3 c3, .slice A4 n4 c4, .slice A5 n5 c5, .slice A6 n6 c6] 26))
  have HB2 := Lib.hid ((Below.refl (w.alloc (.cells #[.int .i64 P, .slice A1 n1 c1, .slice A2 n2 c2, .slice A3 n3 c3, .slice A4 n4 c4, .slice A5 n5 c5, .slice A6 n6 c6] 26)).heap.size (w.alloc (.cells #[.int .i64 P, .slice A1 n1 c1, .slice A2 n2 c2, .slice A3 n3 c3, .slice A4 n4 c4, .slice A5 n5 c5, .slice A6 n6 c6] 26))).alloc (Nat.le_refl _) (Obj.cells #[.int .i64 0, .int .i64 0] 38))
  have HF := Lib.hid hfi
  clear i1 i2 i3 i4 i5 i6 hp hfi
  have d1 : decide ((0 : Int) ≤ P) = false := by simpa using hneg
  go_enter Tryd.func15, Tryd.ntmps15
  go_wp2_with (first | (go_at_call 37; refine (in_any _ _ _ _).mono ?_; rintro r w' ⟨rfl, rfl⟩) | (go_at_call 44; refine (bare_any _ _).mono ?_; rintro r w2 ⟨rfl, hb3⟩; obtain ⟨v0, v1, z0, z1, gl⟩ := HR.out.up hb3))
  exact bodyPost_ret (v := .agg #[.int .i64 (4), .int .i64 (-1)]) (by simp [results, Tryd.results15, go_sem, v0, v1]) rfl ⟨rfl, ((below_up HB.out (below_up HB2.out hb3)).setCell (Nat.le_succ _) _).setCell (Nat.le_succ _) _⟩

set_option maxRecDepth 100000 in
set_option maxHeartbeats 4000000 in
theorem ref_form (P : Int) (A1 A2 A3 A4 A5 A6 : Option Addr) (n1 c1 n2 c2 n3 c3 n4 c4 n5 c5 n6 c6 : Nat) (N : NetP) (w : World) (h : NetAt w P A1 A2 A3 A4 A5 A6 n1 c1 n2 c2 n3 c3 n4 c4 n5 c5 n6 c6 N) (hfi : FineAt w) (h0 : 0 ≤ P) (hne : ((n1 : Int) != P) = true) :
    Calls Tryd.prog 15 #[.agg #[.int .i64 P, .slice A1 n1 c1, .slice A2 n2 c2, .slice A3 n3 c3, .slice A4 n4 c4, .slice A5 n5 c5, .slice A6 n6 c6]] w (GivesFault w (3, -1)) := by
  obtain ⟨hp, i1, i2, i3, i4, i5, i6, p0, b1, b2, b3, b4, b5, b6, k2⟩ := h
  have I2 := Lib.hid i2
  have I3 := Lib.hid i3
  have I4 := Lib.hid i4
  have I6 := Lib.hid i6
  have HN := Lib.hid (fun w2 => ncells P A1 A2 A3 A4 A5 A6 n1 c1 n2 c2 n3 c3 n4 c4 n5 c5 n6 c6 w w2)
  have HB := Lib.hid ((Below.refl w.heap.size w).alloc (Nat.le_refl _) (Obj.cells #[.int .i64 P, .slice A1 n1 c1, .slice A2 n2 c2, .slice A3 n3 c3, .slice A4 n4 c4, .slice A5 n5 c5, .slice A6 n6 c6] 26))
  have HR := Lib.hid (rcell w (Obj.cells #[.int .i64 P, .slice A1 n1 c1, .slice A2 n2 c2, .slice A3 n3 c3, .slice A4 n4 c4, .slice A5 n5 c5, .slice A6 n6 c6] 26))
  have HB2 := Lib.hid ((Below.refl (w.alloc (.cells #[.int .i64 P, .slice A1 n1 c1, .slice A2 n2 c2, .slice A3 n3 c3, .slice A4 n4 c4, .slice A5 n5 c5, .slice A6 n6 c6] 26)).heap.size (w.alloc (.cells #[.int .i64 P, .slice A1 n1 c1, .slice A2 n2 c2, .slice A3 n3 c3, .slice A4 n4 c4, .slice A5 n5 c5, .slice A6 n6 c6] 26))).alloc (Nat.le_refl _) (Obj.cells #[.int .i64 0, .int .i64 0] 38))
  have HF := Lib.hid hfi
  clear i1 i2 i3 i4 i5 i6 hp hfi
  have d1 : decide ((0 : Int) ≤ P) = true := by simpa using h0
  go_enter Tryd.func15, Tryd.ntmps15
  go_wp2_with (first | (go_at_call 37; refine (in_any _ _ _ _).mono ?_; rintro r w' ⟨rfl, rfl⟩) | (go_at_call 44; refine (bare_any _ _).mono ?_; rintro r w2 ⟨rfl, hb3⟩; obtain ⟨v0, v1, z0, z1, gl⟩ := HR.out.up hb3))
  exact bodyPost_ret (v := .agg #[.int .i64 (3), .int .i64 (-1)]) (by simp [results, Tryd.results15, go_sem, v0, v1]) rfl ⟨rfl, ((below_up HB.out (below_up HB2.out hb3)).setCell (Nat.le_succ _) _).setCell (Nat.le_succ _) _⟩

/-- The lists of places, so many of them. -/
def firstL (N : NetP) : Nat → List Int
  | 0 => []
  | 1 => N.ins
  | 2 => N.ins ++ N.outs
  | _ => N.ins ++ N.outs ++ N.keeps
theorem bad_cons (P x : Int) (r : List Int) : badB P (x :: r) = (!placeB P x || badB P r) := by unfold badB; rw [List.any_cons]
theorem bad_app (P : Int) (r s : List Int) : badB P (r ++ s) = (badB P r || badB P s) := by unfold badB; rw [List.any_append]
/-- A step's own variable. -/
structure TCells (w : World) (g : Nat) (s : Stp) : Prop where
  y0 : w.cell? ⟨g, 0, none⟩ = some (.int .i64 s.c)
  y1 : w.cell? ⟨g, 1, none⟩ = some (.int .i64 s.d)
  y2 : w.cell? ⟨g, 2, none⟩ = some (.int .i64 s.a)
  y3 : w.cell? ⟨g, 3, none⟩ = some (.int .i64 s.b)
  y4 : w.cell? ⟨g, 4, none⟩ = some (.int .i64 s.e)
theorem tcells (s : Stp) (w W : World) (hb : Below (w.alloc (.cells #[.int .i64 s.c, .int .i64 s.d, .int .i64 s.a, .int .i64 s.b, .int .i64 s.e] 31)).heap.size (w.alloc (.cells #[.int .i64 s.c, .int .i64 s.d, .int .i64 s.a, .int .i64 s.b, .int .i64 s.e] 31)) W) : TCells W w.heap.size s :=
  ⟨cell_up hb (by simp [go_sem]), cell_up hb (by simp [go_sem]), cell_up hb (by simp [go_sem]), cell_up hb (by simp [go_sem]), cell_up hb (by simp [go_sem])⟩
theorem three (P : Int) (A2 A3 A4 : Option Addr) (n2 c2 n3 c3 n4 c4 : Nat) (N : NetP) (w : World) (i2 : IntsAt w A2 n2 N.ins) (i3 : IntsAt w A3 n3 N.outs) (i4 : IntsAt w A4 n4 N.keeps) (b2 : n2 ≤ 30) (b3 : n3 ≤ 30) (b4 : n4 ≤ 60) (k : Nat) (hk : k < 3) :
    ∃ A n c xs, ((Instr.index 80 (.agg #[.slice A2 n2 c2, .slice A3 n3 c3, .slice A4 n4 c4]) (.int .i64 k)).run Tryd.prog w = .ok (.slice A n c) w) ∧ IntsAt w A n xs ∧ n ≤ 60 ∧ firstL N (k + 1) = firstL N k ++ xs ∧ (badB P xs = true → badB P (N.ins ++ N.outs ++ N.keeps) = true) := by
  have hi := idx3 A2 A3 A4 n2 c2 n3 c3 n4 c4 w
  have ha : badB P (N.ins ++ N.outs ++ N.keeps) = (badB P N.ins || badB P N.outs || badB P N.keeps) := by rw [bad_app, bad_app]
  match k, hk with
  | 0, _ => exact ⟨A2, n2, c2, N.ins, hi.1, i2, by omega, rfl, fun h => by rw [ha, h]; rfl⟩
  | 1, _ => exact ⟨A3, n3, c3, N.outs, hi.2.1, i3, by omega, rfl, fun h => by rw [ha, h]; simp⟩
  | 2, _ => exact ⟨A4, n4, c4, N.keeps, hi.2.2, i4, by omega, rfl, fun h => by rw [ha, h]; simp⟩

set_option maxRecDepth 100000 in
set_option maxHeartbeats 4000000 in
theorem ref_loops (P : Int) (A1 A2 A3 A4 A5 A6 : Option Addr) (n1 c1 n2 c2 n3 c3 n4 c4 n5 c5 n6 c6 : Nat) (N : NetP) (w : World) (h : NetAt w P A1 A2 A3 A4 A5 A6 n1 c1 n2 c2 n3 c3 n4 c4 n5 c5 n6 c6 N) (hfi : FineAt w) (h0 : 0 ≤ P) (hne : ((n1 : Int) != P) = false) :
    Calls Tryd.prog 15 #[.agg #[.int .i64 P, .slice A1 n1 c1, .slice A2 n2 c2, .slice A3 n3 c3, .slice A4 n4 c4, .slice A5 n5 c5, .slice A6 n6 c6]] w (GivesFault w (if badB P (N.ins ++ N.outs ++ N.keeps) = true then (2, -1) else if twiceV [] N.ins = true then (9, -1) else stepsV P n5 N.code 0)) := by
  obtain ⟨hp, i1, i2, i3, i4, i5, i6, p0, b1, b2, b3, b4, b5, b6, k2⟩ := h
  have I2 := Lib.hid i2
  have I3 := Lib.hid i3
  have I4 := Lib.hid i4
  have I6 := Lib.hid i6
  have HN := Lib.hid (fun w2 => ncells P A1 A2 A3 A4 A5 A6 n1 c1 n2 c2 n3 c3 n4 c4 n5 c5 n6 c6 w w2)
  have HB := Lib.hid ((Below.refl w.heap.size w).alloc (Nat.le_refl _) (Obj.cells #[.int .i64 P, .slice A1 n1 c1, .slice A2 n2 c2, .slice A3 n3 c3, .slice A4 n4 c4, .slice A5 n5 c5, .slice A6 n6 c6] 26))
  have HR := Lib.hid (rcell w (Obj.cells #[.int .i64 P, .slice A1 n1 c1, .slice A2 n2 c2, .slice A3 n3 c3, .slice A4 n4 c4, .slice A5 n5 c5, .slice A6 n6 c6] 26))
  have HB2 := Lib.hid ((Below.refl (w.alloc (.cells #[.int .i64 P, .slice A1 n1 c1, .slice A2 n2 c2, .slice A3 n3 c3, .slice A4 n4 c4, .slice A5 n5 c5, .slice A6 n6 c6] 26)).heap.size (w.alloc (.cells #[.int .i64 P, .slice A1 n1 c1, .slice A2 n2 c2, .slice A3 n3 c3, .slice A4 n4 c4, .slice A5 n5 c5, .slice A6 n6 c6] 26))).alloc (Nat.le_refl _) (Obj.cells #[.int .i64 0, .int .i64 0] 38))
  have HF := Lib.hid hfi
  clear i1 i2 i3 i4 i5 i6 hp hfi
  have d1 : decide ((0 : Int) ≤ P) = true := by simpa using h0
  have d2 : decide ((4000 : Int) < n6) = false := by simp; omega
  have d3 : decide ((4000 : Int) < n5) = false := by simp; omega
  have d4 : decide ((4000 : Int) < n2 + n3 + n4) = false := by simp; omega
  go_enter Tryd.func15, Tryd.ntmps15
  obtain ⟨J, hJ⟩ : ∃ J, J = (if badB P (N.ins ++ N.outs ++ N.keeps) = true then (2, -1) else if twiceV [] N.ins = true then (9, -1) else stepsV P n5 N.code 0) := ⟨_, rfl⟩
  rw [← hJ]
  have HJ := Lib.hid hJ
  obtain ⟨Z, hZ⟩ : ∃ Z, Z = (w.alloc (.cells #[.int .i64 P, .slice A1 n1 c1, .slice A2 n2 c2, .slice A3 n3 c3, .slice A4 n4 c4, .slice A5 n5 c5, .slice A6 n6 c6] 26)).alloc (Obj.cells #[.int .i64 0, .int .i64 0] 38) := ⟨_, rfl⟩
  have HZ := Lib.hid hZ
  rw [← hZ] at HR HB2
  have R := Lib.hid (HN.out Z HB2.out)
  have HBZ := Lib.hid (below_up HB.out HB2.out)
  have I2Z := Lib.hid (I2.out.up HBZ.out)
  have I3Z := Lib.hid (I3.out.up HBZ.out)
  have I4Z := Lib.hid (I4.out.up HBZ.out)
  have I6Z := Lib.hid (I6.out.up HBZ.out)
  have hP0 := Lib.hid h0
  clear hJ hZ I2 I3 I4 I6 HN HB HB2
  go_upto_region 1 with fail
  rw [← HZ.out]
  clear HZ
  obtain ⟨r0, r1, r2, r3, r4, r5, r6⟩ := R.out
  go_wp2_with (go_at_call 37; refine (in_any _ _ _ _).mono ?_; rintro r w' ⟨rfl, rfl⟩)
  clear r1 r3 r4 r5 d1 d2 d3 d4
  go_loop [6, 8, 66] (fun _ _ i => ∃ k : Nat, k ≤ 3 ∧ i = .int .i64 k ∧ Hid (badB P (firstL N k) = false)) (fun _ _ i => 3 - (intOf i).toNat)
  case atStart => exact ⟨0, by omega, rfl, rfl⟩
  case round =>
    obtain ⟨k, hk, rfl, hf⟩ := hrel
    by_cases hlt : k < 3
    · obtain ⟨A, n, c, xs, hidx, hI, hn, happ, hall⟩ := three P A2 A3 A4 n2 c2 n3 c3 n4 c4 N Z I2Z.out I3Z.out I4Z.out b2 b3 b4 k hlt
      have HI := Lib.hid hI
      have HAPP := Lib.hid happ
      have HALL := Lib.hid hall
      clear hI happ hall
      go_wp2_with fail
      go_loop [8, 71] (fun _ i => ∃ j : Nat, j ≤ n ∧ i = .int .i64 j ∧ Hid (badB P (xs.drop j) = badB P xs)) (fun _ i => n - (intOf i).toNat)
      case atStart => exact ⟨0, by omega, rfl, by show _ = _; simp⟩
      case round =>
        obtain ⟨j, hj, rfl, hg⟩ := hrel
        by_cases hlj : j < n
        · obtain ⟨b, o, rfl, hc⟩ := HI.out.2 (by omega)
          obtain ⟨x, hcell, hd⟩ : ∃ x, Z.cell? ⟨b, o + j, none⟩ = some (.int .i64 x) ∧ Hid (xs.drop j = x :: xs.drop (j + 1)) := ⟨_, hc j hlj, HI.out.drop_cons hlj⟩
          have HQ := Lib.hid (place_ref P w.heap.size x Z p0 hP0.out r0)
          clear hc
          cases hq : placeB P x
          · rw [hq] at HQ
            have HQ' := Lib.hid hq
            clear hq
            have hbx : badB P xs = true := by rw [← hg.out, hd.out, bad_cons, HQ'.out]; rfl
            have JJ := Lib.hid (show J = (2, -1) by rw [HJ.out, if_pos (HALL.out hbx)])
            clear hbx
            go_wp2_with (first | (go_at_call 45; refine HQ.out.mono ?_; rintro r w' ⟨rfl, rfl⟩) | (go_at_call 44; refine (bare_any _ _).mono ?_; rintro r w2 ⟨rfl, hb3⟩; obtain ⟨v0, v1, z0, z1, gl⟩ := HR.out.up hb3))
            exact bodyPost_ret (v := .agg #[.int .i64 (2), .int .i64 (-1)]) (by simp [results, Tryd.results15, go_sem, v0, v1]) rfl ⟨by rw [JJ.out], ((below_up HBZ.out hb3).setCell (Nat.le_succ _) _).setCell (Nat.le_succ _) _⟩
          · rw [hq] at HQ
            have HQ' := Lib.hid hq
            clear hq
            go_wp2_with (go_at_call 45; refine HQ.out.mono ?_; rintro r w' ⟨rfl, rfl⟩)
            go_round
            case rel => exact ⟨j + 1, by omega, by go_num, by show _ = _; rw [← hg.out, hd.out, bad_cons, HQ'.out]; rfl⟩
            case measure => simp [intOf]; try omega
        · have hbx := Lib.hid (show badB P xs = false by rw [← hg.out, HI.out.drop_end (by omega)]; rfl)
          go_wp2
          go_round
          case rel => exact ⟨k + 1, by omega, by go_num, by show _ = _; rw [HAPP.out, bad_app, hf.out, hbx.out]; rfl⟩
          case measure => simp [intOf]; try omega
    · obtain rfl : k = 3 := by omega
      have hnb := Lib.hid (show badB P (N.ins ++ N.outs ++ N.keeps) = false from hf.out)
      clear hf
      go_wp2_with fail
      go_loop [9, 10, 12, 85] (fun _ _ _ i => ∃ k : Nat, k ≤ n2 ∧ i = .int .i64 k ∧ Hid (twiceV (N.ins.take k) (N.ins.drop k) = twiceV [] N.ins)) (fun _ _ _ i => n2 - (intOf i).toNat)
      case atStart => exact ⟨0, by omega, rfl, by show _ = _; simp⟩
      case round =>
        clear hlt hk
        obtain ⟨k, hk, rfl, hf⟩ := hrel
        by_cases hlt : k < n2
        · have hx1 := Lib.hid (I2Z.out.take hk)
          obtain ⟨b, o, rfl, hc⟩ := I2Z.out.2 (by omega)
          obtain ⟨x, hcell, hd⟩ : ∃ x, Z.cell? ⟨b, o + k, none⟩ = some (.int .i64 x) ∧ Hid (N.ins.drop k = x :: N.ins.drop (k + 1)) := ⟨_, hc k hlt, I2Z.out.drop_cons hlt⟩
          have hkc : k ≤ c2 := by omega
          have HT1 := Lib.hid (take_snoc hd.out)
          clear hc
          go_wp2_with fail
          go_loop [12, 95] (fun _ i => ∃ j : Nat, j ≤ k ∧ i = .int .i64 j ∧ Hid (((N.ins.take k).drop j).any (· == x) = (N.ins.take k).any (· == x))) (fun _ i => k - (intOf i).toNat)
          case atStart => exact ⟨0, by omega, rfl, by show _ = _; rw [List.drop_zero]⟩
          case round =>
            obtain ⟨j, hj, rfl, hg⟩ := hrel
            by_cases hlj : j < k
            · obtain ⟨b', o', e', hc⟩ := hx1.out.2 (by omega)
              cases e'
              obtain ⟨y, hcy, hdy⟩ : ∃ y, Z.cell? ⟨b, o + j, none⟩ = some (.int .i64 y) ∧ Hid ((N.ins.take k).drop j = y :: (N.ins.take k).drop (j + 1)) := ⟨_, hc j hlj, hx1.out.drop_cons hlj⟩
              clear hc
              cases hq : (x == y)
              · have hyx := Lib.hid (show (y == x) = false by rw [beq_eq_false_iff_ne] at hq ⊢; exact fun e => hq e.symm)
                go_wp2_with fail
                go_round
                case rel => exact ⟨j + 1, by omega, by go_num, by show _ = _; rw [← hg.out, hdy.out, List.any_cons, hyx.out, Bool.false_or]⟩
                case measure => simp [intOf]; try omega
              · have hyx := Lib.hid (show (y == x) = true by rw [beq_iff_eq] at hq ⊢; exact hq.symm)
                have hbx : (N.ins.take k).any (· == x) = true := by rw [← hg.out, hdy.out, List.any_cons, hyx.out, Bool.true_or]
                have JJ := Lib.hid (show J = (9, -1) by rw [HJ.out, hnb.out, if_neg (by simp), if_pos (by rw [← hf.out, hd.out, twiceV, if_pos hbx])])
                clear hbx
                go_wp2_with (go_at_call 44; refine (bare_any _ _).mono ?_; rintro r w2 ⟨rfl, hb3⟩; obtain ⟨v0, v1, z0, z1, gl⟩ := HR.out.up hb3)
                exact bodyPost_ret (v := .agg #[.int .i64 (9), .int .i64 (-1)]) (by simp [results, Tryd.results15, go_sem, v0, v1]) rfl ⟨by rw [JJ.out], ((below_up HBZ.out hb3).setCell (Nat.le_succ _) _).setCell (Nat.le_succ _) _⟩
            · have hbx := Lib.hid (show (N.ins.take k).any (· == x) = false by rw [← hg.out, hx1.out.drop_end (by omega)]; rfl)
              go_wp2_with fail
              go_round
              case rel => exact ⟨k + 1, by omega, by go_num, by show _ = _; rw [← hf.out, hd.out, twiceV, if_neg (by rw [hbx.out]; simp), HT1.out]⟩
              case measure => simp [intOf]; try omega
        · have JJ := Lib.hid (show J = stepsV P n5 N.code 0 by rw [HJ.out, hnb.out, if_neg (by simp), if_neg (by rw [← hf.out, I2Z.out.drop_end (by omega)]; simp [twiceV])])
          clear hf r2 HJ hnb
          go_wp2_with fail
          go_loopw [13, 14, 15, 16, 18, 108] (fun _ _ _ _ _ i wr => ∃ k : Nat, k ≤ n6 ∧ i = .int .i64 k ∧ Hid (stepsV P n5 (N.code.drop k) k = stepsV P n5 N.code 0) ∧ Below Z.heap.size Z wr) (fun _ _ _ _ _ i _ => n6 - (intOf i).toNat)
          case atStart => exact ⟨0, Nat.zero_le _, rfl, by show _ = _; simp, Below.refl _ _⟩
          case round =>
            clear hlt hk
            obtain ⟨k, hk, rfl, hf, hbr⟩ := hrel
            by_cases hlt : k < n6
            · obtain ⟨b, o, rfl, hc⟩ := (I6Z.out.up hbr).2 (by omega)
              obtain ⟨s, hs0, hs1, hs2, hs3, hs4, hs5⟩ := hc k hlt
              have hd := Lib.hid (drop_step hs0)
              have HBR := Lib.hid hbr
              have ha := refAsks_any s (wr.alloc (.cells #[.int .i64 s.c, .int .i64 s.d, .int .i64 s.a, .int .i64 s.b, .int .i64 s.e] 31))
              obtain ⟨m, hm⟩ : ∃ m, m = arityV s.c := ⟨_, rfl⟩
              obtain ⟨AL, hAL⟩ : ∃ AL, AL = asksV s := ⟨_, rfl⟩
              have hm3 : m ≤ 3 := by rw [hm]; exact arity_le _
              rw [← hm, ← hAL] at ha
              have HA := Lib.hid ha
              have HM := Lib.hid hm
              have HAL := Lib.hid hAL
              have HS := Lib.hid (fun W => tcells s wr W)
              have HB5 := Lib.hid ((Below.refl wr.heap.size wr).alloc (Nat.le_refl _) (Obj.cells #[.int .i64 s.c, .int .i64 s.d, .int .i64 s.a, .int .i64 s.b, .int .i64 s.e] 31))
              clear hc hbr hs0 r0 r6 ha hm hAL
              go_wp2_with fail
              refine HA.out.mono ?_
              rintro r w6 ⟨AS, cs, rfl, hcs, hI, hb6⟩
              have HI := Lib.hid hI
              have B6 := Lib.hid (below_up HBR.out (below_up HB5.out hb6))
              obtain ⟨r0, _, _, _, _, r5, _⟩ := R.out.up B6.out
              obtain ⟨v0, v1, z0, z1, gl⟩ := HR.out.up B6.out
              obtain ⟨y0, y1, y2, y3, y4⟩ := HS.out w6 hb6
              have HQD := Lib.hid (place_ref P w.heap.size s.d w6 p0 hP0.out r0)
              clear hI hb6 HA HS HB5 hs1 hs2 hs3 hs4 hs5 HBR
              by_cases h1 : s.c = 1
              · have hm0 := Lib.hid (show m = 0 by rw [HM.out, h1]; rfl)
                have hc1 : (s.c == 1) = true := by rw [h1]; rfl
                have HC := Lib.hid (show s.c = 1 ∨ arityV s.c ≠ 0 from .inl h1)
                cases hq : placeB P s.d
                · rw [hq] at HQD
                  have HD := Lib.hid hq
                  clear hq
                  have hv := step_dst (m := (n5 : Int)) HC.out HD.out
                  have JK := Lib.hid (show J = (2, (k : Int)) by rw [JJ.out, ← hf.out, hd.out, stepsV, if_neg (by rw [hv]; decide), hv])
                  clear hv
                  go_wp2_with (go_at_call 45; refine HQD.out.mono ?_; rintro r w' ⟨rfl, rfl⟩)

                  go_loop [16, 18, 145] (fun ok _ i => ∃ j : Nat, j ≤ m ∧ i = .int .i64 j ∧ ok = .bool false) (fun _ _ i => m - (intOf i).toNat)
                  case atStart => exact ⟨0, by omega, rfl, rfl⟩
                  case round =>
                    obtain ⟨j, hj, rfl, rfl⟩ := hrel
                    by_cases hlj : j < m
                    · obtain ⟨b', o', rfl, hcc⟩ := HI.out.2 (by omega)
                      obtain ⟨x, hcx⟩ : ∃ x, w6.cell? ⟨b', o' + j, none⟩ = some (.int .i64 x) := ⟨_, hcc j hlj⟩
                      clear hcc
                      go_wp2_with fail
                      go_round
                      case rel => exact ⟨j + 1, by omega, by go_num, rfl⟩
                      case measure => simp [intOf]; try omega
                    · go_wp2_with fail
                      exact bodyPost_ret (v := .agg #[.int .i64 (2), .int .i64 (k)]) (by simp [results, Tryd.results15, go_sem, v0, v1]) rfl ⟨by rw [JK.out], ((below_up HBZ.out B6.out).setCell (Nat.le_succ _) _).setCell (Nat.le_succ _) _⟩
                · rw [hq] at HQD
                  have HD := Lib.hid hq
                  clear hq
                  have hin := in_any s.a 0 ((n5 : Int) - 1) w6
                  by_cases ha : 0 ≤ s.a ∧ s.a < (n5 : Int)
                  · rw [show (decide (0 ≤ s.a) && decide (s.a ≤ (n5 : Int) - 1)) = true by simp; omega] at hin
                    have HN5 := Lib.hid (show s.c ≠ 1 ∨ (0 ≤ s.a ∧ s.a < (n5 : Int)) from .inr ha)
                    go_wp2_with (first | (go_at_call 45; refine HQD.out.mono ?_; rintro r w' ⟨rfl, rfl⟩) | (go_at_call 37; refine hin.mono ?_; rintro r w' ⟨rfl, rfl⟩))
                    go_loop [16, 18, 145] (fun ok _ i => ∃ (j : Nat) (bb : Bool), j ≤ m ∧ i = .int .i64 j ∧ ok = .bool bb ∧ Hid ((bb && (AL.drop j).all (placeB P)) = AL.all (placeB P))) (fun _ _ i => m - (intOf i).toNat)
                    case atStart => exact ⟨0, true, by omega, rfl, rfl, by show _ = _; rw [List.drop_zero]; rfl⟩
                    case round =>
                      obtain ⟨j, bb, hj, rfl, rfl, hg⟩ := hrel
                      by_cases hlj : j < m
                      · have hdx := Lib.hid (HI.out.drop_cons hlj)
                        obtain ⟨b', o', rfl, hcc⟩ := HI.out.2 (by omega)
                        obtain ⟨x, hcx, hdx⟩ : ∃ x, w6.cell? ⟨b', o' + j, none⟩ = some (.int .i64 x) ∧ Hid (AL.drop j = x :: AL.drop (j + 1)) := ⟨_, hcc j hlj, HI.out.drop_cons hlj⟩
                        clear hcc
                        cases bb
                        · go_wp2_with fail
                          go_round
                          case rel => exact ⟨j + 1, false, by omega, by go_num, rfl, by show _ = _; rw [← hg.out]; rfl⟩
                          case measure => simp [intOf]; try omega
                        · have HQX := Lib.hid (place_ref P w.heap.size x w6 p0 hP0.out r0)
                          go_wp2_with (go_at_call 45; refine HQX.out.mono ?_; rintro r w' ⟨rfl, rfl⟩)
                          go_round
                          case rel => exact ⟨j + 1, placeB P x, by omega, by go_num, rfl, by show _ = _; rw [← hg.out, hdx.out, List.all_cons, Bool.true_and]⟩
                          case measure => simp [intOf]; try omega
                      · have hE := Lib.hid (HI.out.drop_end (k := j) (by omega))
                        cases bb
                        · have hb0 : badB P (asksV s) = true := by
                            rw [← HAL.out]
                            cases hbb : badB P AL
                            · rw [badB_false, ← hg.out] at hbb
                              first | cases hbb | simp at hbb
                            · rfl
                          have hv := step_bad (m := (n5 : Int)) HC.out hb0
                          have JK := Lib.hid (show J = (2, (k : Int)) by rw [JJ.out, ← hf.out, hd.out, stepsV, if_neg (by rw [hv]; decide), hv])
                          clear hv hb0
                          go_wp2_with fail
                          exact bodyPost_ret (v := .agg #[.int .i64 (2), .int .i64 (k)]) (by simp [results, Tryd.results15, go_sem, v0, v1]) rfl ⟨by rw [JK.out], ((below_up HBZ.out B6.out).setCell (Nat.le_succ _) _).setCell (Nat.le_succ _) _⟩
                        · have hb0 := Lib.hid (show badB P (asksV s) = false by rw [← HAL.out, badB_false, ← hg.out, hE.out]; rfl)
                          by_cases m3 : m < 3
                          · cases hE : (s.e == 0)
                            · have e1 : s.e ≠ 0 := by rw [beq_eq_false_iff_ne] at hE; exact hE
                              have hv := step_arg (m := (n5 : Int)) HC.out HD.out hb0.out HN5.out (by rw [← HM.out]; omega)
                              have JK := Lib.hid (show J = (1, (k : Int)) by rw [JJ.out, ← hf.out, hd.out, stepsV, if_neg (by rw [hv]; decide), hv])
                              clear hv
                              go_wp2_with fail
                              exact bodyPost_ret (v := .agg #[.int .i64 (1), .int .i64 (k)]) (by simp [results, Tryd.results15, go_sem, v0, v1]) rfl ⟨by rw [JK.out], ((below_up HBZ.out B6.out).setCell (Nat.le_succ _) _).setCell (Nat.le_succ _) _⟩
                            · have e1 : s.e = 0 := by rw [beq_iff_eq] at hE; exact hE
                              by_cases m2 : m < 2
                              · cases hB : (s.b == 0)
                                · have e2 : s.b ≠ 0 := by rw [beq_eq_false_iff_ne] at hB; exact hB
                                  have hv := step_arg (m := (n5 : Int)) HC.out HD.out hb0.out HN5.out (by rw [← HM.out]; omega)
                                  have JK := Lib.hid (show J = (1, (k : Int)) by rw [JJ.out, ← hf.out, hd.out, stepsV, if_neg (by rw [hv]; decide), hv])
                                  clear hv
                                  go_wp2_with fail
                                  exact bodyPost_ret (v := .agg #[.int .i64 (1), .int .i64 (k)]) (by simp [results, Tryd.results15, go_sem, v0, v1]) rfl ⟨by rw [JK.out], ((below_up HBZ.out B6.out).setCell (Nat.le_succ _) _).setCell (Nat.le_succ _) _⟩
                                · have e2 : s.b = 0 := by rw [beq_iff_eq] at hB; exact hB
                                  go_wp2_with fail
                                  go_roundw
                                  case rel => exact ⟨k + 1, by omega, by go_num, (by show _ = _; rw [← hf.out, hd.out, stepsV, if_pos (step_ok HC.out HD.out hb0.out HN5.out (by rw [← HM.out]; omega))]), B6.out⟩
                                  case measure => simp [intOf]; try omega
                              ·
                                go_wp2_with fail
                                go_roundw
                                case rel => exact ⟨k + 1, by omega, by go_num, (by show _ = _; rw [← hf.out, hd.out, stepsV, if_pos (step_ok HC.out HD.out hb0.out HN5.out (by rw [← HM.out]; omega))]), B6.out⟩
                                case measure => simp [intOf]; try omega
                          ·
                            go_wp2_with fail
                            go_roundw
                            case rel => exact ⟨k + 1, by omega, by go_num, (by show _ = _; rw [← hf.out, hd.out, stepsV, if_pos (step_ok HC.out HD.out hb0.out HN5.out (by rw [← HM.out]; omega))]), B6.out⟩
                            case measure => simp [intOf]; try omega
                  · rw [show (decide (0 ≤ s.a) && decide (s.a ≤ (n5 : Int) - 1)) = false by simp; omega] at hin
                    have hv := step_num (m := (n5 : Int)) h1 HD.out (show badB P (asksV s) = false by rw [← HAL.out, List.eq_nil_of_length_eq_zero (HI.out.1.trans hm0.out)]; rfl) (by omega)
                    have JK := Lib.hid (show J = (2, (k : Int)) by rw [JJ.out, ← hf.out, hd.out, stepsV, if_neg (by rw [hv]; decide), hv])
                    clear hv
                    go_wp2_with (first | (go_at_call 45; refine HQD.out.mono ?_; rintro r w' ⟨rfl, rfl⟩) | (go_at_call 37; refine hin.mono ?_; rintro r w' ⟨rfl, rfl⟩))
                    go_loop [16, 18, 145] (fun ok _ i => ∃ j : Nat, j ≤ m ∧ i = .int .i64 j ∧ ok = .bool false) (fun _ _ i => m - (intOf i).toNat)
                    case atStart => exact ⟨0, by omega, rfl, rfl⟩
                    case round =>
                      obtain ⟨j, hj, rfl, rfl⟩ := hrel
                      by_cases hlj : j < m
                      · obtain ⟨b', o', rfl, hcc⟩ := HI.out.2 (by omega)
                        obtain ⟨x, hcx⟩ : ∃ x, w6.cell? ⟨b', o' + j, none⟩ = some (.int .i64 x) := ⟨_, hcc j hlj⟩
                        clear hcc
                        go_wp2_with fail
                        go_round
                        case rel => exact ⟨j + 1, by omega, by go_num, rfl⟩
                        case measure => simp [intOf]; try omega
                      · go_wp2_with fail
                        exact bodyPost_ret (v := .agg #[.int .i64 (2), .int .i64 (k)]) (by simp [results, Tryd.results15, go_sem, v0, v1]) rfl ⟨by rw [JK.out], ((below_up HBZ.out B6.out).setCell (Nat.le_succ _) _).setCell (Nat.le_succ _) _⟩
              · have hc1 : (s.c == 1) = false := by rw [beq_eq_false_iff_ne]; exact h1
                by_cases hm0 : m = 0
                · have hz : ((m : Int) == 0) = true := by rw [hm0]; rfl
                  have hv := step_form (P := P) (m := (n5 : Int)) h1 (HM.out.symm.trans hm0)
                  have JK := Lib.hid (show J = (3, (k : Int)) by rw [JJ.out, ← hf.out, hd.out, stepsV, if_neg (by rw [hv]; decide), hv])
                  clear hv
                  go_wp2_with fail
                  exact bodyPost_ret (v := .agg #[.int .i64 (3), .int .i64 (k)]) (by simp [results, Tryd.results15, go_sem, v0, v1]) rfl ⟨by rw [JK.out], ((below_up HBZ.out B6.out).setCell (Nat.le_succ _) _).setCell (Nat.le_succ _) _⟩
                · have hz : ((m : Int) == 0) = false := by rw [beq_eq_false_iff_ne]; omega
                  have HC := Lib.hid (show s.c = 1 ∨ arityV s.c ≠ 0 from .inr (by rw [← HM.out]; exact hm0))
                  cases hq : placeB P s.d
                  · rw [hq] at HQD
                    have HD := Lib.hid hq
                    clear hq
                    have hv := step_dst (m := (n5 : Int)) HC.out HD.out
                    have JK := Lib.hid (show J = (2, (k : Int)) by rw [JJ.out, ← hf.out, hd.out, stepsV, if_neg (by rw [hv]; decide), hv])
                    clear hv
                    go_wp2_with (go_at_call 45; refine HQD.out.mono ?_; rintro r w' ⟨rfl, rfl⟩)

                    go_loop [16, 18, 145] (fun ok _ i => ∃ j : Nat, j ≤ m ∧ i = .int .i64 j ∧ ok = .bool false) (fun _ _ i => m - (intOf i).toNat)
                    case atStart => exact ⟨0, by omega, rfl, rfl⟩
                    case round =>
                      obtain ⟨j, hj, rfl, rfl⟩ := hrel
                      by_cases hlj : j < m
                      · obtain ⟨b', o', rfl, hcc⟩ := HI.out.2 (by omega)
                        obtain ⟨x, hcx⟩ : ∃ x, w6.cell? ⟨b', o' + j, none⟩ = some (.int .i64 x) := ⟨_, hcc j hlj⟩
                        clear hcc
                        go_wp2_with fail
                        go_round
                        case rel => exact ⟨j + 1, by omega, by go_num, rfl⟩
                        case measure => simp [intOf]; try omega
                      · go_wp2_with fail
                        exact bodyPost_ret (v := .agg #[.int .i64 (2), .int .i64 (k)]) (by simp [results, Tryd.results15, go_sem, v0, v1]) rfl ⟨by rw [JK.out], ((below_up HBZ.out B6.out).setCell (Nat.le_succ _) _).setCell (Nat.le_succ _) _⟩
                  · rw [hq] at HQD
                    have HD := Lib.hid hq
                    clear hq
                    have HN5 := Lib.hid (show s.c ≠ 1 ∨ (0 ≤ s.a ∧ s.a < (n5 : Int)) from .inl h1)
                    go_wp2_with (go_at_call 45; refine HQD.out.mono ?_; rintro r w' ⟨rfl, rfl⟩)

                    go_loop [16, 18, 145] (fun ok _ i => ∃ (j : Nat) (bb : Bool), j ≤ m ∧ i = .int .i64 j ∧ ok = .bool bb ∧ Hid ((bb && (AL.drop j).all (placeB P)) = AL.all (placeB P))) (fun _ _ i => m - (intOf i).toNat)
                    case atStart => exact ⟨0, true, by omega, rfl, rfl, by show _ = _; rw [List.drop_zero]; rfl⟩
                    case round =>
                      obtain ⟨j, bb, hj, rfl, rfl, hg⟩ := hrel
                      by_cases hlj : j < m
                      · have hdx := Lib.hid (HI.out.drop_cons hlj)
                        obtain ⟨b', o', rfl, hcc⟩ := HI.out.2 (by omega)
                        obtain ⟨x, hcx, hdx⟩ : ∃ x, w6.cell? ⟨b', o' + j, none⟩ = some (.int .i64 x) ∧ Hid (AL.drop j = x :: AL.drop (j + 1)) := ⟨_, hcc j hlj, HI.out.drop_cons hlj⟩
                        clear hcc
                        cases bb
                        · go_wp2_with fail
                          go_round
                          case rel => exact ⟨j + 1, false, by omega, by go_num, rfl, by show _ = _; rw [← hg.out]; rfl⟩
                          case measure => simp [intOf]; try omega
                        · have HQX := Lib.hid (place_ref P w.heap.size x w6 p0 hP0.out r0)
                          go_wp2_with (go_at_call 45; refine HQX.out.mono ?_; rintro r w' ⟨rfl, rfl⟩)
                          go_round
                          case rel => exact ⟨j + 1, placeB P x, by omega, by go_num, rfl, by show _ = _; rw [← hg.out, hdx.out, List.all_cons, Bool.true_and]⟩
                          case measure => simp [intOf]; try omega
                      · have hE := Lib.hid (HI.out.drop_end (k := j) (by omega))
                        cases bb
                        · have hb0 : badB P (asksV s) = true := by
                            rw [← HAL.out]
                            cases hbb : badB P AL
                            · rw [badB_false, ← hg.out] at hbb
                              first | cases hbb | simp at hbb
                            · rfl
                          have hv := step_bad (m := (n5 : Int)) HC.out hb0
                          have JK := Lib.hid (show J = (2, (k : Int)) by rw [JJ.out, ← hf.out, hd.out, stepsV, if_neg (by rw [hv]; decide), hv])
                          clear hv hb0
                          go_wp2_with fail
                          exact bodyPost_ret (v := .agg #[.int .i64 (2), .int .i64 (k)]) (by simp [results, Tryd.results15, go_sem, v0, v1]) rfl ⟨by rw [JK.out], ((below_up HBZ.out B6.out).setCell (Nat.le_succ _) _).setCell (Nat.le_succ _) _⟩
                        · have hb0 := Lib.hid (show badB P (asksV s) = false by rw [← HAL.out, badB_false, ← hg.out, hE.out]; rfl)
                          by_cases m3 : m < 3
                          · cases hE : (s.e == 0)
                            · have e1 : s.e ≠ 0 := by rw [beq_eq_false_iff_ne] at hE; exact hE
                              have hv := step_arg (m := (n5 : Int)) HC.out HD.out hb0.out HN5.out (by rw [← HM.out]; omega)
                              have JK := Lib.hid (show J = (1, (k : Int)) by rw [JJ.out, ← hf.out, hd.out, stepsV, if_neg (by rw [hv]; decide), hv])
                              clear hv
                              go_wp2_with fail
                              exact bodyPost_ret (v := .agg #[.int .i64 (1), .int .i64 (k)]) (by simp [results, Tryd.results15, go_sem, v0, v1]) rfl ⟨by rw [JK.out], ((below_up HBZ.out B6.out).setCell (Nat.le_succ _) _).setCell (Nat.le_succ _) _⟩
                            · have e1 : s.e = 0 := by rw [beq_iff_eq] at hE; exact hE
                              by_cases m2 : m < 2
                              · cases hB : (s.b == 0)
                                · have e2 : s.b ≠ 0 := by rw [beq_eq_false_iff_ne] at hB; exact hB
                                  have hv := step_arg (m := (n5 : Int)) HC.out HD.out hb0.out HN5.out (by rw [← HM.out]; omega)
                                  have JK := Lib.hid (show J = (1, (k : Int)) by rw [JJ.out, ← hf.out, hd.out, stepsV, if_neg (by rw [hv]; decide), hv])
                                  clear hv
                                  go_wp2_with fail
                                  exact bodyPost_ret (v := .agg #[.int .i64 (1), .int .i64 (k)]) (by simp [results, Tryd.results15, go_sem, v0, v1]) rfl ⟨by rw [JK.out], ((below_up HBZ.out B6.out).setCell (Nat.le_succ _) _).setCell (Nat.le_succ _) _⟩
                                · have e2 : s.b = 0 := by rw [beq_iff_eq] at hB; exact hB
                                  go_wp2_with fail
                                  go_roundw
                                  case rel => exact ⟨k + 1, by omega, by go_num, (by show _ = _; rw [← hf.out, hd.out, stepsV, if_pos (step_ok HC.out HD.out hb0.out HN5.out (by rw [← HM.out]; omega))]), B6.out⟩
                                  case measure => simp [intOf]; try omega
                              ·
                                go_wp2_with fail
                                go_roundw
                                case rel => exact ⟨k + 1, by omega, by go_num, (by show _ = _; rw [← hf.out, hd.out, stepsV, if_pos (step_ok HC.out HD.out hb0.out HN5.out (by rw [← HM.out]; omega))]), B6.out⟩
                                case measure => simp [intOf]; try omega
                          ·
                            go_wp2_with fail
                            go_roundw
                            case rel => exact ⟨k + 1, by omega, by go_num, (by show _ = _; rw [← hf.out, hd.out, stepsV, if_pos (step_ok HC.out HD.out hb0.out HN5.out (by rw [← HM.out]; omega))]), B6.out⟩
                            case measure => simp [intOf]; try omega
            · have JK := Lib.hid (show J = (0, -1) by rw [JJ.out, ← hf.out, (I6Z.out.up hbr).drop_end (by omega)]; rfl)
              have f0 := cell_up (below_up HBZ.out hbr) HF.out.1
              have f1 := cell_up (below_up HBZ.out hbr) HF.out.2
              obtain ⟨v0, v1, z0, z1, gl⟩ := HR.out.up hbr
              go_wp2_with fail
              exact bodyPost_ret (v := .agg #[.int .i64 (0), .int .i64 (-1)]) (by simp [results, Tryd.results15, go_sem, v0, v1]) rfl ⟨by rw [JK.out], ((below_up HBZ.out hbr).setCell (Nat.le_succ _) _).setCell (Nat.le_succ _) _⟩

theorem ref_any (P : Int) (A1 A2 A3 A4 A5 A6 : Option Addr) (n1 c1 n2 c2 n3 c3 n4 c4 n5 c5 n6 c6 : Nat) (N : NetP) (w : World) (h : NetAt w P A1 A2 A3 A4 A5 A6 n1 c1 n2 c2 n3 c3 n4 c4 n5 c5 n6 c6 N) (hfi : FineAt w) :
    Calls Tryd.prog 15 #[.agg #[.int .i64 P, .slice A1 n1 c1, .slice A2 n2 c2, .slice A3 n3 c3, .slice A4 n4 c4, .slice A5 n5 c5, .slice A6 n6 c6]] w (GivesFault w (judgeV N)) := by
  have hp := h.hp
  have l1 : (N.first.length : Int) = n1 := by rw [h.i1.1]
  have l5 : (N.nums.length : Int) = n5 := by rw [h.i5.1]
  unfold judgeV
  rw [judge_app, hp, l1, l5]
  by_cases h0 : P < 0
  · rw [if_pos h0]; exact ref_neg P A1 A2 A3 A4 A5 A6 n1 c1 n2 c2 n3 c3 n4 c4 n5 c5 n6 c6 N w h hfi h0
  rw [if_neg h0]
  by_cases h1 : (n1 : Int) = P
  · rw [if_neg (by simpa using h1)]
    exact ref_loops P A1 A2 A3 A4 A5 A6 n1 c1 n2 c2 n3 c3 n4 c4 n5 c5 n6 c6 N w h hfi (by omega) (by simpa using h1)
  · rw [if_pos (by simpa using h1)]; exact ref_form P A1 A2 A3 A4 A5 A6 n1 c1 n2 c2 n3 c3 n4 c4 n5 c5 n6 c6 N w h hfi (by omega) (by simpa using h1)
end Go.Proofs.YtgglbjniclkkpaaDoor

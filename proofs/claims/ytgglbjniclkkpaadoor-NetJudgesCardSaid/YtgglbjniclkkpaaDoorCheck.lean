/-
  net.Check: whether code may be, or what is wrong.
-/
import Derived.Test.YtgglbjniclkkpaaDoorStep
import Derived.Test.YtgglbjniclkkpaaDoorConcat
import Derived.Test.YtgglbjniclkkpaaDoorIs
namespace Go.Proofs.YtgglbjniclkkpaaDoor
open Go.RowKit
set_option linter.unusedVariables false

/-- Code as it lies in memory, few enough to be held. -/
structure NetAt (w : World) (P : Int) (A1 A2 A3 A4 A5 A6 : Option Addr) (n1 c1 n2 c2 n3 c3 n4 c4 n5 c5 n6 c6 : Nat) (N : NetP) : Prop where
  hp : N.places = P
  i1 : IntsAt w A1 n1 N.first
  i2 : IntsAt w A2 n2 N.ins
  i3 : IntsAt w A3 n3 N.outs
  i4 : IntsAt w A4 n4 N.keeps
  i5 : IntsAt w A5 n5 N.nums
  i6 : StepsAt w A6 n6 N.code
  p0 : P ≤ 300
  b1 : n1 ≤ 300
  b2 : n2 ≤ 30
  b3 : n3 ≤ 30
  b4 : n4 ≤ 60
  b5 : n5 ≤ 60
  b6 : n6 ≤ 120
  k2 : n2 ≤ c2
theorem NetAt.up {w W : World} {P : Int} {A1 A2 A3 A4 A5 A6 : Option Addr} {n1 c1 n2 c2 n3 c3 n4 c4 n5 c5 n6 c6 : Nat} {N : NetP} (h : NetAt w P A1 A2 A3 A4 A5 A6 n1 c1 n2 c2 n3 c3 n4 c4 n5 c5 n6 c6 N) (hb : Below w.heap.size w W) : NetAt W P A1 A2 A3 A4 A5 A6 n1 c1 n2 c2 n3 c3 n4 c4 n5 c5 n6 c6 N :=
  ⟨h.hp, h.i1.up hb, h.i2.up hb, h.i3.up hb, h.i4.up hb, h.i5.up hb, h.i6.up hb, h.p0, h.b1, h.b2, h.b3, h.b4, h.b5, h.b6, h.k2⟩
/-- Code's own variable. -/
structure NCells (w : World) (g : Nat) (P : Int) (A1 A2 A3 A4 A5 A6 : Option Addr) (n1 c1 n2 c2 n3 c3 n4 c4 n5 c5 n6 c6 : Nat) : Prop where
  r0 : w.cell? ⟨g, 0, none⟩ = some (.int .i64 P)
  r1 : w.cell? ⟨g, 1, none⟩ = some (.slice A1 n1 c1)
  r2 : w.cell? ⟨g, 2, none⟩ = some (.slice A2 n2 c2)
  r3 : w.cell? ⟨g, 3, none⟩ = some (.slice A3 n3 c3)
  r4 : w.cell? ⟨g, 4, none⟩ = some (.slice A4 n4 c4)
  r5 : w.cell? ⟨g, 5, none⟩ = some (.slice A5 n5 c5)
  r6 : w.cell? ⟨g, 6, none⟩ = some (.slice A6 n6 c6)
theorem ncells (P : Int) (A1 A2 A3 A4 A5 A6 : Option Addr) (n1 c1 n2 c2 n3 c3 n4 c4 n5 c5 n6 c6 : Nat) (w w2 : World) (hb : Below (w.alloc (.cells #[.int .i64 P, .slice A1 n1 c1, .slice A2 n2 c2, .slice A3 n3 c3, .slice A4 n4 c4, .slice A5 n5 c5, .slice A6 n6 c6] 26)).heap.size (w.alloc (.cells #[.int .i64 P, .slice A1 n1 c1, .slice A2 n2 c2, .slice A3 n3 c3, .slice A4 n4 c4, .slice A5 n5 c5, .slice A6 n6 c6] 26)) w2) : NCells w2 w.heap.size P A1 A2 A3 A4 A5 A6 n1 c1 n2 c2 n3 c3 n4 c4 n5 c5 n6 c6 :=
  ⟨cell_up hb (by simp [go_sem]), cell_up hb (by simp [go_sem]), cell_up hb (by simp [go_sem]), cell_up hb (by simp [go_sem]), cell_up hb (by simp [go_sem]), cell_up hb (by simp [go_sem]), cell_up hb (by simp [go_sem])⟩
theorem NCells.up {w W : World} {g : Nat} {P : Int} {A1 A2 A3 A4 A5 A6 : Option Addr} {n1 c1 n2 c2 n3 c3 n4 c4 n5 c5 n6 c6 : Nat} (h : NCells w g P A1 A2 A3 A4 A5 A6 n1 c1 n2 c2 n3 c3 n4 c4 n5 c5 n6 c6) (hb : Below w.heap.size w W) : NCells W g P A1 A2 A3 A4 A5 A6 n1 c1 n2 c2 n3 c3 n4 c4 n5 c5 n6 c6 :=
  ⟨cell_up hb h.r0, cell_up hb h.r1, cell_up hb h.r2, cell_up hb h.r3, cell_up hb h.r4, cell_up hb h.r5, cell_up hb h.r6⟩

theorem take_snoc {k : Nat} {x : Int} {xs : List Int} (h : xs.drop k = x :: xs.drop (k + 1)) : xs.take (k + 1) = xs.take k ++ [x] := by
  have hl : k < xs.length := by
    rcases Nat.lt_or_ge k xs.length with h1 | h1
    · exact h1
    · rw [List.drop_of_length_le h1] at h; cases h
  rw [List.drop_eq_getElem_cons hl] at h
  injection h with h1 _
  rw [List.take_succ_eq_append_getElem hl, h1]
theorem ret_bool {a b : Bool} (h : a = b) : Ending.returned (.bool a) = .returned (.bool b) := by rw [h]
theorem in41 (P : Int) (g : Nat) (w : World) (hc : w.cell? ⟨g, 0, none⟩ = some (.int .i64 P)) : Says w 41 ⟨g, 0, none⟩ (fun p => !placeB P p) := by
  intro x W hb
  have hc' := cell_up hb hc
  clear hc
  show Calls _ _ _ _ (fun e W' => e = .returned (.bool (!placeB P x)) ∧ Below W.heap.size W W')
  by_cases h : 0 ≤ x
  · have d : decide (x < (0 : Int)) = false := by simpa using h
    by_cases h2 : x < P
    · have hp : (!placeB P x) = false := by unfold placeB; simp [h, h2]
      rw [hp]
      clear hp
      go_enter Tryd.func41, Tryd.ntmps41
      go_wp2
      go_ret
      exact ⟨ret_bool (by simp; omega), Below.refl _ _⟩
    · have hp : (!placeB P x) = true := by unfold placeB; simp [h2]
      rw [hp]
      clear hp
      go_enter Tryd.func41, Tryd.ntmps41
      go_wp2
      go_ret
      exact ⟨ret_bool (by simp; try omega), Below.refl _ _⟩
  · have d : decide (x < (0 : Int)) = true := by simp; omega
    have h' : x < 0 := by omega
    have hp : (!placeB P x) = true := by unfold placeB; simp [h]
    rw [hp]
    clear hp h
    go_enter Tryd.func41, Tryd.ntmps41
    go_wp2
    go_ret
    exact ⟨ret_bool rfl, Below.refl _ _⟩
theorem badC_any (A : Option Addr) (n cp : Nat) (xs : List Int) (P : Int) (g : Nat) (w : World) (hx : IntsAt w A n xs) (hn : n ≤ 65536) (hc : w.cell? ⟨g, 0, none⟩ = some (.int .i64 P)) :
    Calls Tryd.prog 40 #[.slice A n cp, .func (.func 41) #[] #[.pointer (some ⟨g, 0, none⟩)]] w fun e w' => e = .returned (.bool (badB P xs)) ∧ Below w.heap.size w w' :=
  containsFunc_Check A n cp xs ⟨g, 0, none⟩ (fun p => !placeB P p) w hx hn (in41 P g w hc)

/-- It hands back the error e at p. -/
def GivesErr (w : World) (j : Int × Int) (r : Ending) (w' : World) : Prop := ∃ v, r = .returned v ∧ ErrAt w' v j.1 j.2 ∧ Below w.heap.size w w'

set_option maxRecDepth 100000 in
set_option maxHeartbeats 4000000 in
theorem check_neg (P : Int) (A1 A2 A3 A4 A5 A6 : Option Addr) (n1 c1 n2 c2 n3 c3 n4 c4 n5 c5 n6 c6 : Nat) (N : NetP) (w : World) (h : NetAt w P A1 A2 A3 A4 A5 A6 n1 c1 n2 c2 n3 c3 n4 c4 n5 c5 n6 c6 N) (hg : HandleAt w) (hneg : P < 0) :
    Calls Tryd.prog 14 #[.agg #[.int .i64 P, .slice A1 n1 c1, .slice A2 n2 c2, .slice A3 n3 c3, .slice A4 n4 c4, .slice A5 n5 c5, .slice A6 n6 c6]] w (GivesErr w (4, -1)) := by
  obtain ⟨hp, i1, i2, i3, i4, i5, i6, p0, b1, b2, b3, b4, b5, b6, k2⟩ := h
  obtain ⟨L, hL0⟩ : ∃ L, L = N.ins ++ N.outs ++ N.keeps := ⟨_, rfl⟩
  have hL := Lib.hid hL0
  clear hL0
  have I2 := Lib.hid i2
  have I3 := Lib.hid i3
  have I4 := Lib.hid i4
  have I6 := Lib.hid i6
  have HG := Lib.hid hg
  have HN := Lib.hid (fun w2 => ncells P A1 A2 A3 A4 A5 A6 n1 c1 n2 c2 n3 c3 n4 c4 n5 c5 n6 c6 w w2)
  have HB := Lib.hid ((Below.refl w.heap.size w).alloc (Nat.le_refl _) (Obj.cells #[.int .i64 P, .slice A1 n1 c1, .slice A2 n2 c2, .slice A3 n3 c3, .slice A4 n4 c4, .slice A5 n5 c5, .slice A6 n6 c6] 26))
  clear i1 i2 i3 i4 i5 i6 hg hp
  go_enter Tryd.func14, Tryd.ntmps14
  go_wp2_with fail
  have hb1 := (Below.refl (w.alloc (.cells #[.int .i64 P, .slice A1 n1 c1, .slice A2 n2 c2, .slice A3 n3 c3, .slice A4 n4 c4, .slice A5 n5 c5, .slice A6 n6 c6] 26)).heap.size (w.alloc (.cells #[.int .i64 P, .slice A1 n1 c1, .slice A2 n2 c2, .slice A3 n3 c3, .slice A4 n4 c4, .slice A5 n5 c5, .slice A6 n6 c6] 26))).alloc (Nat.le_refl _) (Obj.cells #[.slice A2 n2 c2, .slice A3 n3 c3, .slice A4 n4 c4] 23)
  refine (concat_any (w.heap.size + 1) A2 A3 A4 n2 c2 n3 c3 n4 c4 N.ins N.outs N.keeps _ ⟨by simp [go_sem], by simp [go_sem], by simp [go_sem]⟩ (I2.out.up (below_up HB.out hb1)) (I3.out.up (below_up HB.out hb1)) (I4.out.up (below_up HB.out hb1)) (by omega) (by omega) (by omega)).mono ?_
  rintro r w1 ⟨AA, cc, rfl, hcc, hI, hb2⟩
  rw [← hL.out] at hI
  have B1 := Lib.hid (below_up hb1 hb2)
  have IA := Lib.hid hI
  clear hb1 hb2 hI
  obtain ⟨r0, r1, r2, r3, r4, r5, r6⟩ := HN.out w1 B1.out
  go_wp2
  go_ret
  exact ⟨_, rfl, .inr (.inl ⟨rfl, rfl, by decide⟩), below_up HB.out B1.out⟩

set_option maxRecDepth 100000 in
set_option maxHeartbeats 4000000 in
theorem check_form (P : Int) (A1 A2 A3 A4 A5 A6 : Option Addr) (n1 c1 n2 c2 n3 c3 n4 c4 n5 c5 n6 c6 : Nat) (N : NetP) (w : World) (h : NetAt w P A1 A2 A3 A4 A5 A6 n1 c1 n2 c2 n3 c3 n4 c4 n5 c5 n6 c6 N) (hg : HandleAt w) (h0 : 0 ≤ P) (hne : ((n1 : Int) != P) = true) :
    Calls Tryd.prog 14 #[.agg #[.int .i64 P, .slice A1 n1 c1, .slice A2 n2 c2, .slice A3 n3 c3, .slice A4 n4 c4, .slice A5 n5 c5, .slice A6 n6 c6]] w (GivesErr w (3, -1)) := by
  obtain ⟨hp, i1, i2, i3, i4, i5, i6, p0, b1, b2, b3, b4, b5, b6, k2⟩ := h
  obtain ⟨L, hL0⟩ : ∃ L, L = N.ins ++ N.outs ++ N.keeps := ⟨_, rfl⟩
  have hL := Lib.hid hL0
  clear hL0
  have I2 := Lib.hid i2
  have I3 := Lib.hid i3
  have I4 := Lib.hid i4
  have I6 := Lib.hid i6
  have HG := Lib.hid hg
  have HN := Lib.hid (fun w2 => ncells P A1 A2 A3 A4 A5 A6 n1 c1 n2 c2 n3 c3 n4 c4 n5 c5 n6 c6 w w2)
  have HB := Lib.hid ((Below.refl w.heap.size w).alloc (Nat.le_refl _) (Obj.cells #[.int .i64 P, .slice A1 n1 c1, .slice A2 n2 c2, .slice A3 n3 c3, .slice A4 n4 c4, .slice A5 n5 c5, .slice A6 n6 c6] 26))
  clear i1 i2 i3 i4 i5 i6 hg hp
  go_enter Tryd.func14, Tryd.ntmps14
  go_wp2_with fail
  have hb1 := (Below.refl (w.alloc (.cells #[.int .i64 P, .slice A1 n1 c1, .slice A2 n2 c2, .slice A3 n3 c3, .slice A4 n4 c4, .slice A5 n5 c5, .slice A6 n6 c6] 26)).heap.size (w.alloc (.cells #[.int .i64 P, .slice A1 n1 c1, .slice A2 n2 c2, .slice A3 n3 c3, .slice A4 n4 c4, .slice A5 n5 c5, .slice A6 n6 c6] 26))).alloc (Nat.le_refl _) (Obj.cells #[.slice A2 n2 c2, .slice A3 n3 c3, .slice A4 n4 c4] 23)
  refine (concat_any (w.heap.size + 1) A2 A3 A4 n2 c2 n3 c3 n4 c4 N.ins N.outs N.keeps _ ⟨by simp [go_sem], by simp [go_sem], by simp [go_sem]⟩ (I2.out.up (below_up HB.out hb1)) (I3.out.up (below_up HB.out hb1)) (I4.out.up (below_up HB.out hb1)) (by omega) (by omega) (by omega)).mono ?_
  rintro r w1 ⟨AA, cc, rfl, hcc, hI, hb2⟩
  rw [← hL.out] at hI
  have B1 := Lib.hid (below_up hb1 hb2)
  have IA := Lib.hid hI
  clear hb1 hb2 hI
  obtain ⟨r0, r1, r2, r3, r4, r5, r6⟩ := HN.out w1 B1.out
  have d1 : decide (P < (0 : Int)) = false := by simpa using h0
  go_wp2
  go_ret
  exact ⟨_, rfl, .inr (.inl ⟨rfl, rfl, by decide⟩), below_up HB.out B1.out⟩

set_option maxRecDepth 100000 in
set_option maxHeartbeats 4000000 in
theorem check_bad (P : Int) (A1 A2 A3 A4 A5 A6 : Option Addr) (n1 c1 n2 c2 n3 c3 n4 c4 n5 c5 n6 c6 : Nat) (N : NetP) (w : World) (h : NetAt w P A1 A2 A3 A4 A5 A6 n1 c1 n2 c2 n3 c3 n4 c4 n5 c5 n6 c6 N) (hg : HandleAt w) (h0 : 0 ≤ P) (hne : ((n1 : Int) != P) = false) (hb : badB P (N.ins ++ N.outs ++ N.keeps) = true) :
    Calls Tryd.prog 14 #[.agg #[.int .i64 P, .slice A1 n1 c1, .slice A2 n2 c2, .slice A3 n3 c3, .slice A4 n4 c4, .slice A5 n5 c5, .slice A6 n6 c6]] w (GivesErr w (2, -1)) := by
  obtain ⟨hp, i1, i2, i3, i4, i5, i6, p0, b1, b2, b3, b4, b5, b6, k2⟩ := h
  obtain ⟨L, hL0⟩ : ∃ L, L = N.ins ++ N.outs ++ N.keeps := ⟨_, rfl⟩
  have hL := Lib.hid hL0
  rw [← hL0] at hb
  clear hL0
  have I2 := Lib.hid i2
  have I3 := Lib.hid i3
  have I4 := Lib.hid i4
  have I6 := Lib.hid i6
  have HG := Lib.hid hg
  have HN := Lib.hid (fun w2 => ncells P A1 A2 A3 A4 A5 A6 n1 c1 n2 c2 n3 c3 n4 c4 n5 c5 n6 c6 w w2)
  have HB := Lib.hid ((Below.refl w.heap.size w).alloc (Nat.le_refl _) (Obj.cells #[.int .i64 P, .slice A1 n1 c1, .slice A2 n2 c2, .slice A3 n3 c3, .slice A4 n4 c4, .slice A5 n5 c5, .slice A6 n6 c6] 26))
  clear i1 i2 i3 i4 i5 i6 hg hp
  go_enter Tryd.func14, Tryd.ntmps14
  go_wp2_with fail
  have hb1 := (Below.refl (w.alloc (.cells #[.int .i64 P, .slice A1 n1 c1, .slice A2 n2 c2, .slice A3 n3 c3, .slice A4 n4 c4, .slice A5 n5 c5, .slice A6 n6 c6] 26)).heap.size (w.alloc (.cells #[.int .i64 P, .slice A1 n1 c1, .slice A2 n2 c2, .slice A3 n3 c3, .slice A4 n4 c4, .slice A5 n5 c5, .slice A6 n6 c6] 26))).alloc (Nat.le_refl _) (Obj.cells #[.slice A2 n2 c2, .slice A3 n3 c3, .slice A4 n4 c4] 23)
  refine (concat_any (w.heap.size + 1) A2 A3 A4 n2 c2 n3 c3 n4 c4 N.ins N.outs N.keeps _ ⟨by simp [go_sem], by simp [go_sem], by simp [go_sem]⟩ (I2.out.up (below_up HB.out hb1)) (I3.out.up (below_up HB.out hb1)) (I4.out.up (below_up HB.out hb1)) (by omega) (by omega) (by omega)).mono ?_
  rintro r w1 ⟨AA, cc, rfl, hcc, hI, hb2⟩
  rw [← hL.out] at hI
  have B1 := Lib.hid (below_up hb1 hb2)
  have IA := Lib.hid hI
  clear hb1 hb2 hI
  obtain ⟨r0, r1, r2, r3, r4, r5, r6⟩ := HN.out w1 B1.out
  have d1 : decide (P < (0 : Int)) = false := by simpa using h0
  go_wp2_with (go_at_call 40; refine (badC_any AA _ cc _ P w.heap.size w1 IA.out (by omega) r0).mono ?_; rintro r w2 ⟨rfl, hb3⟩)
  go_ret
  exact ⟨_, rfl, .inr (.inl ⟨rfl, rfl, by decide⟩), below_up HB.out (below_up B1.out hb3)⟩

set_option maxRecDepth 100000 in
set_option maxHeartbeats 4000000 in
theorem check_twice (P : Int) (A1 A2 A3 A4 A5 A6 : Option Addr) (n1 c1 n2 c2 n3 c3 n4 c4 n5 c5 n6 c6 : Nat) (N : NetP) (w : World) (h : NetAt w P A1 A2 A3 A4 A5 A6 n1 c1 n2 c2 n3 c3 n4 c4 n5 c5 n6 c6 N) (hg : HandleAt w) (h0 : 0 ≤ P) (hne : ((n1 : Int) != P) = false) (hb : badB P (N.ins ++ N.outs ++ N.keeps) = false) (hw : twiceV [] N.ins = true) :
    Calls Tryd.prog 14 #[.agg #[.int .i64 P, .slice A1 n1 c1, .slice A2 n2 c2, .slice A3 n3 c3, .slice A4 n4 c4, .slice A5 n5 c5, .slice A6 n6 c6]] w (GivesErr w (9, -1)) := by
  obtain ⟨hp, i1, i2, i3, i4, i5, i6, p0, b1, b2, b3, b4, b5, b6, k2⟩ := h
  obtain ⟨L, hL0⟩ : ∃ L, L = N.ins ++ N.outs ++ N.keeps := ⟨_, rfl⟩
  have hL := Lib.hid hL0
  rw [← hL0] at hb
  clear hL0
  have I2 := Lib.hid i2
  have I3 := Lib.hid i3
  have I4 := Lib.hid i4
  have I6 := Lib.hid i6
  have HG := Lib.hid hg
  have HN := Lib.hid (fun w2 => ncells P A1 A2 A3 A4 A5 A6 n1 c1 n2 c2 n3 c3 n4 c4 n5 c5 n6 c6 w w2)
  have HB := Lib.hid ((Below.refl w.heap.size w).alloc (Nat.le_refl _) (Obj.cells #[.int .i64 P, .slice A1 n1 c1, .slice A2 n2 c2, .slice A3 n3 c3, .slice A4 n4 c4, .slice A5 n5 c5, .slice A6 n6 c6] 26))
  clear i1 i2 i3 i4 i5 i6 hg hp
  go_enter Tryd.func14, Tryd.ntmps14
  go_wp2_with fail
  have hb1 := (Below.refl (w.alloc (.cells #[.int .i64 P, .slice A1 n1 c1, .slice A2 n2 c2, .slice A3 n3 c3, .slice A4 n4 c4, .slice A5 n5 c5, .slice A6 n6 c6] 26)).heap.size (w.alloc (.cells #[.int .i64 P, .slice A1 n1 c1, .slice A2 n2 c2, .slice A3 n3 c3, .slice A4 n4 c4, .slice A5 n5 c5, .slice A6 n6 c6] 26))).alloc (Nat.le_refl _) (Obj.cells #[.slice A2 n2 c2, .slice A3 n3 c3, .slice A4 n4 c4] 23)
  refine (concat_any (w.heap.size + 1) A2 A3 A4 n2 c2 n3 c3 n4 c4 N.ins N.outs N.keeps _ ⟨by simp [go_sem], by simp [go_sem], by simp [go_sem]⟩ (I2.out.up (below_up HB.out hb1)) (I3.out.up (below_up HB.out hb1)) (I4.out.up (below_up HB.out hb1)) (by omega) (by omega) (by omega)).mono ?_
  rintro r w1 ⟨AA, cc, rfl, hcc, hI, hb2⟩
  rw [← hL.out] at hI
  have B1 := Lib.hid (below_up hb1 hb2)
  have IA := Lib.hid hI
  clear hb1 hb2 hI
  obtain ⟨r0, r1, r2, r3, r4, r5, r6⟩ := HN.out w1 B1.out
  have d1 : decide (P < (0 : Int)) = false := by simpa using h0
  go_wp2_with (go_at_call 40; refine (badC_any AA _ cc _ P w.heap.size w1 IA.out (by omega) r0).mono ?_; rintro r w2 ⟨rfl, hb3⟩; obtain ⟨q0, q1, q2, q3, q4, q5, q6⟩ := HN.out w2 (below_up B1.out hb3))
  have B2 := Lib.hid (below_up B1.out hb3)
  have R := Lib.hid (HN.out w2 B2.out)
  clear hb3 r0 r1 r2 r3 r4 r5 r6 q0 q1 q3 q4 q5
  have TW := Lib.hid hw
  clear hw
  have I2W := Lib.hid (I2.out.up (below_up HB.out B2.out))
  have BW := Lib.hid (below_up HB.out B2.out)
  go_loop [4, 5, 60] (fun _ _ i => ∃ k : Nat, k ≤ n2 ∧ i = .int .i64 k ∧ Hid (twiceV (N.ins.take k) (N.ins.drop k) = twiceV [] N.ins)) (fun _ _ i => n2 - (intOf i).toNat)
  case atStart => exact ⟨0, Nat.zero_le _, rfl, by show _ = _; simp⟩
  case round =>
    obtain ⟨k, hk, rfl, hf⟩ := hrel
    by_cases hlt : k < n2
    · obtain ⟨b, o, rfl, hc⟩ := I2W.out.2 (by omega)
      obtain ⟨x, hcell, hd⟩ : ∃ x, w2.cell? ⟨b, o + k, none⟩ = some (.int .i64 x) ∧ Hid (N.ins.drop k = x :: N.ins.drop (k + 1)) := ⟨_, hc k hlt, I2W.out.drop_cons hlt⟩
      have hkc : k ≤ c2 := by omega
      have hx1 := I2W.out.take hk
      have ht1 : N.ins.take (k + 1) = N.ins.take k ++ [x] := take_snoc hd.out
      have HT1 := Lib.hid ht1
      have HQ := Lib.hid (contains_any _ k c2 (N.ins.take k) x w2 hx1 (by omega))
      clear hc hx1 ht1
      cases hq : (N.ins.take k).any (· == x)
      · rw [hq] at HQ
        have HQ' := Lib.hid hq
        clear hq
        go_wp2_with (go_at_call 42; refine HQ.out.mono ?_; rintro r w' ⟨rfl, rfl⟩)
        go_round
        case rel => exact ⟨k + 1, by omega, by go_num, by show _ = _; rw [← hf.out, hd.out, twiceV, if_neg (by rw [HQ'.out]; simp), HT1.out]⟩
        case measure => simp [intOf]; omega
      · rw [hq] at HQ
        have HQ' := Lib.hid hq
        clear hq
        go_wp2_with (go_at_call 42; refine HQ.out.mono ?_; rintro r w' ⟨rfl, rfl⟩)
        go_ret
        exact ⟨_, rfl, .inr (.inl ⟨rfl, rfl, by decide⟩), BW.out⟩
    · have hd := Lib.hid (I2W.out.drop_end (k := k) (by omega))
      exfalso
      have h1 := hf.out
      rw [hd.out, TW.out] at h1
      cases h1

set_option maxRecDepth 100000 in
set_option maxHeartbeats 4000000 in
theorem check_steps (P : Int) (A1 A2 A3 A4 A5 A6 : Option Addr) (n1 c1 n2 c2 n3 c3 n4 c4 n5 c5 n6 c6 : Nat) (N : NetP) (w : World) (h : NetAt w P A1 A2 A3 A4 A5 A6 n1 c1 n2 c2 n3 c3 n4 c4 n5 c5 n6 c6 N) (hg : HandleAt w) (h0 : 0 ≤ P) (hne : ((n1 : Int) != P) = false) (hb : badB P (N.ins ++ N.outs ++ N.keeps) = false) (hw : twiceV [] N.ins = false) :
    Calls Tryd.prog 14 #[.agg #[.int .i64 P, .slice A1 n1 c1, .slice A2 n2 c2, .slice A3 n3 c3, .slice A4 n4 c4, .slice A5 n5 c5, .slice A6 n6 c6]] w (GivesErr w (stepsV P n5 N.code 0)) := by
  obtain ⟨hp, i1, i2, i3, i4, i5, i6, p0, b1, b2, b3, b4, b5, b6, k2⟩ := h
  obtain ⟨L, hL0⟩ : ∃ L, L = N.ins ++ N.outs ++ N.keeps := ⟨_, rfl⟩
  have hL := Lib.hid hL0
  rw [← hL0] at hb
  clear hL0
  have I2 := Lib.hid i2
  have I3 := Lib.hid i3
  have I4 := Lib.hid i4
  have I6 := Lib.hid i6
  have HG := Lib.hid hg
  have HN := Lib.hid (fun w2 => ncells P A1 A2 A3 A4 A5 A6 n1 c1 n2 c2 n3 c3 n4 c4 n5 c5 n6 c6 w w2)
  have HB := Lib.hid ((Below.refl w.heap.size w).alloc (Nat.le_refl _) (Obj.cells #[.int .i64 P, .slice A1 n1 c1, .slice A2 n2 c2, .slice A3 n3 c3, .slice A4 n4 c4, .slice A5 n5 c5, .slice A6 n6 c6] 26))
  clear i1 i2 i3 i4 i5 i6 hg hp
  go_enter Tryd.func14, Tryd.ntmps14
  go_wp2_with fail
  have hb1 := (Below.refl (w.alloc (.cells #[.int .i64 P, .slice A1 n1 c1, .slice A2 n2 c2, .slice A3 n3 c3, .slice A4 n4 c4, .slice A5 n5 c5, .slice A6 n6 c6] 26)).heap.size (w.alloc (.cells #[.int .i64 P, .slice A1 n1 c1, .slice A2 n2 c2, .slice A3 n3 c3, .slice A4 n4 c4, .slice A5 n5 c5, .slice A6 n6 c6] 26))).alloc (Nat.le_refl _) (Obj.cells #[.slice A2 n2 c2, .slice A3 n3 c3, .slice A4 n4 c4] 23)
  refine (concat_any (w.heap.size + 1) A2 A3 A4 n2 c2 n3 c3 n4 c4 N.ins N.outs N.keeps _ ⟨by simp [go_sem], by simp [go_sem], by simp [go_sem]⟩ (I2.out.up (below_up HB.out hb1)) (I3.out.up (below_up HB.out hb1)) (I4.out.up (below_up HB.out hb1)) (by omega) (by omega) (by omega)).mono ?_
  rintro r w1 ⟨AA, cc, rfl, hcc, hI, hb2⟩
  rw [← hL.out] at hI
  have B1 := Lib.hid (below_up hb1 hb2)
  have IA := Lib.hid hI
  clear hb1 hb2 hI
  obtain ⟨r0, r1, r2, r3, r4, r5, r6⟩ := HN.out w1 B1.out
  have d1 : decide (P < (0 : Int)) = false := by simpa using h0
  go_wp2_with (go_at_call 40; refine (badC_any AA _ cc _ P w.heap.size w1 IA.out (by omega) r0).mono ?_; rintro r w2 ⟨rfl, hb3⟩; obtain ⟨q0, q1, q2, q3, q4, q5, q6⟩ := HN.out w2 (below_up B1.out hb3))
  have B2 := Lib.hid (below_up B1.out hb3)
  have R := Lib.hid (HN.out w2 B2.out)
  clear hb3 r0 r1 r2 r3 r4 r5 r6 q0 q1 q3 q4 q5
  have TW := Lib.hid hw
  clear hw
  have I2W := Lib.hid (I2.out.up (below_up HB.out B2.out))
  have BW := Lib.hid (below_up HB.out B2.out)
  go_loop [4, 5, 60] (fun _ _ i => ∃ k : Nat, k ≤ n2 ∧ i = .int .i64 k ∧ Hid (twiceV (N.ins.take k) (N.ins.drop k) = twiceV [] N.ins)) (fun _ _ i => n2 - (intOf i).toNat)
  case atStart => exact ⟨0, Nat.zero_le _, rfl, by show _ = _; simp⟩
  case round =>
    obtain ⟨k, hk, rfl, hf⟩ := hrel
    by_cases hlt : k < n2
    · obtain ⟨b, o, rfl, hc⟩ := I2W.out.2 (by omega)
      obtain ⟨x, hcell, hd⟩ : ∃ x, w2.cell? ⟨b, o + k, none⟩ = some (.int .i64 x) ∧ Hid (N.ins.drop k = x :: N.ins.drop (k + 1)) := ⟨_, hc k hlt, I2W.out.drop_cons hlt⟩
      have hkc : k ≤ c2 := by omega
      have hx1 := I2W.out.take hk
      have ht1 : N.ins.take (k + 1) = N.ins.take k ++ [x] := take_snoc hd.out
      have HT1 := Lib.hid ht1
      have HQ := Lib.hid (contains_any _ k c2 (N.ins.take k) x w2 hx1 (by omega))
      clear hc hx1 ht1
      cases hq : (N.ins.take k).any (· == x)
      · rw [hq] at HQ
        have HQ' := Lib.hid hq
        clear hq
        go_wp2_with (go_at_call 42; refine HQ.out.mono ?_; rintro r w' ⟨rfl, rfl⟩)
        go_round
        case rel => exact ⟨k + 1, by omega, by go_num, by show _ = _; rw [← hf.out, hd.out, twiceV, if_neg (by rw [HQ'.out]; simp), HT1.out]⟩
        case measure => simp [intOf]; omega
      · rw [hq] at HQ
        have HQ' := Lib.hid hq
        clear hq
        exfalso
        have h1 := hf.out
        rw [hd.out, twiceV, if_pos HQ'.out, TW.out] at h1
        cases h1
    · have hd := Lib.hid (I2W.out.drop_end (k := k) (by omega))
      have P2 := Lib.hid (R.out.r0)
      have I6W := Lib.hid (I6.out.up BW.out)
      have HGW := Lib.hid (HG.out.up BW.out)
      clear hd hf
      go_wp2
      go_loopw [6, 7, 8, 76] (fun _ _ _ i wr => ∃ k : Nat, k ≤ n6 ∧ i = .int .i64 k ∧ Hid (stepsV P n5 (N.code.drop k) k = stepsV P n5 N.code 0) ∧ Below w2.heap.size w2 wr) (fun _ _ _ i _ => n6 - (intOf i).toNat)
      case atStart => exact ⟨0, Nat.zero_le _, rfl, by show _ = _; simp, Below.refl _ _⟩
      case round =>
        obtain ⟨k, hk, rfl, hf, hbr⟩ := hrel
        by_cases hlt : k < n6
        · obtain ⟨b, o, rfl, hc⟩ := (I6W.out.up hbr).2 (by omega)
          obtain ⟨s, hs0, hs1, hs2, hs3, hs4, hs5⟩ := hc k hlt
          have hd := Lib.hid (drop_step hs0)
          have HBR := Lib.hid hbr
          obtain ⟨z0, z1, z2, z3, z4, z5, z6⟩ := HN.out wr (below_up B2.out hbr)
          have hb5 := (Below.refl wr.heap.size wr).alloc (Nat.le_refl _) (Obj.cells #[.int .i64 s.c, .int .i64 s.d, .int .i64 s.a, .int .i64 s.b, .int .i64 s.e] 31)
          have HS := Lib.hid (step_any P A1 A2 A3 A4 A5 (some ⟨b, o, none⟩) n1 c1 n2 c2 n3 c3 n4 c4 n5 c5 n6 c6 s (wr.alloc (.cells #[.int .i64 s.c, .int .i64 s.d, .int .i64 s.a, .int .i64 s.b, .int .i64 s.e] 31)))
          have HB5 := Lib.hid hb5
          obtain ⟨y0, y1, y2, y3, y4, y5, y6⟩ := HN.out _ (below_up (below_up B2.out hbr) hb5)
          have HG5 := Lib.hid (HGW.out.up (below_up hbr hb5))
          clear hc hbr hb5 hs0
          by_cases he : stepV P n5 s = 0
          · have HE := Lib.hid he
            rw [he, bareV, if_pos rfl] at HS
            clear he
            go_wp2_with (go_at_call 43; refine HS.out.mono ?_; rintro r w5 ⟨rfl, hb6⟩)
            go_roundw
            case rel => exact ⟨k + 1, by omega, by go_num, (by show _ = _; rw [← hf.out, hd.out, stepsV, if_pos HE.out]), below_up HBR.out (below_up HB5.out hb6)⟩
            case measure => simp [intOf]; omega
          · have HE := Lib.hid he
            rw [bareV, if_neg he] at HS
            obtain ⟨e, hee⟩ : ∃ e, e = stepV P n5 s := ⟨_, rfl⟩
            rw [← hee] at HS
            have HEE := Lib.hid hee
            clear he hee
            go_wp2_with (first | (go_at_call 43; refine HS.out.mono ?_; rintro r w5 ⟨rfl, hb6⟩) | (go_at_call 24; refine (tell_errno e w5 (HG5.out.up hb6)).mono ?_; rintro r w6 ⟨rfl, hb7⟩))
            go_ret
            refine ⟨_, rfl, .inr (.inr ⟨w6.heap.size, rfl, ?_, ?_, ?_⟩), ?_⟩
            · rw [← hf.out, hd.out, stepsV, if_neg HE.out, ← HEE.out]
              simp [go_sem]
            · rw [← hf.out, hd.out, stepsV, if_neg HE.out]
              simp [go_sem]
            · rw [← hf.out, hd.out, stepsV, if_neg HE.out]
              exact HE.out
            · exact below_up BW.out (below_up HBR.out (below_up HB5.out (below_up hb6 (below_up hb7 ((Below.refl _ _).alloc (Nat.le_refl _) _)))))
        · have hd := Lib.hid ((I6W.out.up hbr).drop_end (k := k) (by omega))
          go_wp2
          go_ret
          refine ⟨_, rfl, .inl ⟨rfl, ?_, ?_⟩, below_up BW.out hbr⟩
          · rw [← hf.out, hd.out]; rfl
          · rw [← hf.out, hd.out]; rfl

theorem judge_app (N : NetP) : (N.ins ++ (N.outs ++ N.keeps)).any (fun p => !placeB N.places p) = badB N.places (N.ins ++ N.outs ++ N.keeps) := by unfold badB; rw [List.append_assoc]
theorem check_any (P : Int) (A1 A2 A3 A4 A5 A6 : Option Addr) (n1 c1 n2 c2 n3 c3 n4 c4 n5 c5 n6 c6 : Nat) (N : NetP) (w : World) (h : NetAt w P A1 A2 A3 A4 A5 A6 n1 c1 n2 c2 n3 c3 n4 c4 n5 c5 n6 c6 N) (hg : HandleAt w) :
    Calls Tryd.prog 14 #[.agg #[.int .i64 P, .slice A1 n1 c1, .slice A2 n2 c2, .slice A3 n3 c3, .slice A4 n4 c4, .slice A5 n5 c5, .slice A6 n6 c6]] w (GivesErr w (judgeV N)) := by
  have hp := h.hp
  have l1 : (N.first.length : Int) = n1 := by rw [h.i1.1]
  have l5 : (N.nums.length : Int) = n5 := by rw [h.i5.1]
  unfold judgeV
  rw [judge_app, hp, l1, l5]
  by_cases h0 : P < 0
  · rw [if_pos h0]; exact check_neg P A1 A2 A3 A4 A5 A6 n1 c1 n2 c2 n3 c3 n4 c4 n5 c5 n6 c6 N w h hg h0
  rw [if_neg h0]
  by_cases h1 : (n1 : Int) = P
  · rw [if_neg (by simpa using h1)]
    have hne : ((n1 : Int) != P) = false := by simpa using h1
    cases hb : badB P (N.ins ++ N.outs ++ N.keeps)
    · rw [if_neg (by simp)]
      cases hw : twiceV [] N.ins
      · rw [if_neg (by simp)]; exact check_steps P A1 A2 A3 A4 A5 A6 n1 c1 n2 c2 n3 c3 n4 c4 n5 c5 n6 c6 N w h hg (by omega) hne hb hw
      · rw [if_pos rfl]; exact check_twice P A1 A2 A3 A4 A5 A6 n1 c1 n2 c2 n3 c3 n4 c4 n5 c5 n6 c6 N w h hg (by omega) hne hb hw
    · rw [if_pos rfl]; exact check_bad P A1 A2 A3 A4 A5 A6 n1 c1 n2 c2 n3 c3 n4 c4 n5 c5 n6 c6 N w h hg (by omega) hne hb
  · rw [if_pos (by simpa using h1)]; exact check_form P A1 A2 A3 A4 A5 A6 n1 c1 n2 c2 n3 c3 n4 c4 n5 c5 n6 c6 N w h hg (by omega) (by simpa using h1)
end Go.Proofs.YtgglbjniclkkpaaDoor

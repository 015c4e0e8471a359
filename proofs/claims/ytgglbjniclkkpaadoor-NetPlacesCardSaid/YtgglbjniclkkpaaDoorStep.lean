/-
  net.step: what is wrong with one step.
-/
import Derived.Test.YtgglbjniclkkpaaDoorAsks
import Derived.Test.YtgglbjniclkkpaaDoorSlices
import Derived.Laws.EntriesVeiled
namespace Go.Proofs.YtgglbjniclkkpaaDoor
open Go.RowKit
set_option linter.unusedVariables false

theorem in73 (P x : Int) (g : Nat) (w : World) (hc : w.cell? ⟨g, 0, none⟩ = some (.int .i64 P)) : Calls Tryd.prog 73 #[.int .i64 x, .pointer (some ⟨g, 0, none⟩)] w fun r w' => r = .returned (.bool (placeB P x)) ∧ w = w' := by
  by_cases h : 0 ≤ x
  · have d : decide ((0 : Int) ≤ x) = true := by simpa using h
    have hp : placeB P x = decide (x < P) := by unfold placeB; rw [d]; simp
    rw [hp]
    clear hp
    go_enter Tryd.func73, Tryd.ntmps73
    go_wp2
    go_ret
    exact ⟨rfl, rfl⟩
  · have d : decide ((0 : Int) ≤ x) = false := by simpa using h
    have hp : placeB P x = false := by unfold placeB; rw [d]; simp
    have h' : x < 0 := by omega
    rw [hp]
    clear hp h
    go_enter Tryd.func73, Tryd.ntmps73
    go_wp2
    go_ret
    exact ⟨rfl, rfl⟩
theorem in74 (P : Int) (g t : Nat) (w : World) (hc : w.cell? ⟨g, 0, none⟩ = some (.int .i64 P)) (ht : w.cell? ⟨t, 0, none⟩ = some (.func (.func 73) #[] #[.pointer (some ⟨g, 0, none⟩)])) :
    Says w 74 ⟨t, 0, none⟩ (fun p => !placeB P p) := by
  intro x W hb
  have hI := Lib.hid (in73 P x g W (cell_up hb hc))
  have ht' := cell_up hb ht
  clear hc ht
  have hnot : ∀ (x : Bool) (w : World), (Op.unary .not (.bool x)).run Tryd.prog w = .ok (.bool (!x)) w := fun _ _ => rfl
  go_enter Tryd.func74, Tryd.ntmps74
  go_wp2_with (go_at_call 73; refine hI.out.mono ?_; rintro r w' ⟨rfl, rfl⟩)
  go_ret
  exact ⟨rfl, Below.refl _ _⟩

theorem bad_any (A : Option Addr) (n cp : Nat) (xs : List Int) (P : Int) (g t : Nat) (w : World) (hx : IntsAt w A n xs) (hn : n ≤ 65536) (hc : w.cell? ⟨g, 0, none⟩ = some (.int .i64 P)) (ht : w.cell? ⟨t, 0, none⟩ = some (.func (.func 73) #[] #[.pointer (some ⟨g, 0, none⟩)])) :
    Calls Tryd.prog 40 #[.slice A n cp, .func (.func 74) #[] #[.pointer (some ⟨t, 0, none⟩)]] w fun e w' => e = .returned (.bool (badB P xs)) ∧ Below w.heap.size w w' :=
  containsFunc_Step A n cp xs ⟨t, 0, none⟩ (fun p => !placeB P p) w hx hn (in74 P g t w hc ht)

/-- The step's own variables, in a later world. -/
structure SCells (w : World) (g : Nat) (P : Int) (A5 : Option Addr) (n5 c5 : Nat) (c d a b e : Int) : Prop where
  p : w.cell? ⟨g, 0, none⟩ = some (.int .i64 P)
  q : w.cell? ⟨g, 5, none⟩ = some (.slice A5 n5 c5)
  s0 : w.cell? ⟨g + 1, 0, none⟩ = some (.int .i64 c)
  s1 : w.cell? ⟨g + 1, 1, none⟩ = some (.int .i64 d)
  s2 : w.cell? ⟨g + 1, 2, none⟩ = some (.int .i64 a)
  s3 : w.cell? ⟨g + 1, 3, none⟩ = some (.int .i64 b)
  s4 : w.cell? ⟨g + 1, 4, none⟩ = some (.int .i64 e)
  f : w.cell? ⟨g + 1 + 1, 0, none⟩ = some (.func (.func 73) #[] #[.pointer (some ⟨g, 0, none⟩)])
theorem scells (P : Int) (A1 A2 A3 A4 A5 A6 : Option Addr) (n1 c1 n2 c2 n3 c3 n4 c4 n5 c5 n6 c6 : Nat) (c d a b e : Int) (w w2 : World) (hb : Below (((w.alloc (.cells #[.int .i64 P, .slice A1 n1 c1, .slice A2 n2 c2, .slice A3 n3 c3, .slice A4 n4 c4, .slice A5 n5 c5, .slice A6 n6 c6] 26)).alloc (.cells #[.int .i64 c, .int .i64 d, .int .i64 a, .int .i64 b, .int .i64 e] 31)).alloc (.cells #[.func (.func 73) #[] #[.pointer (some ⟨w.heap.size, 0, none⟩)]] 74)).heap.size (((w.alloc (.cells #[.int .i64 P, .slice A1 n1 c1, .slice A2 n2 c2, .slice A3 n3 c3, .slice A4 n4 c4, .slice A5 n5 c5, .slice A6 n6 c6] 26)).alloc (.cells #[.int .i64 c, .int .i64 d, .int .i64 a, .int .i64 b, .int .i64 e] 31)).alloc (.cells #[.func (.func 73) #[] #[.pointer (some ⟨w.heap.size, 0, none⟩)]] 74)) w2) : SCells w2 w.heap.size P A5 n5 c5 c d a b e :=
  ⟨cell_up hb (by simp [go_sem]), cell_up hb (by simp [go_sem]), cell_up hb (by simp [go_sem]), cell_up hb (by simp [go_sem]), cell_up hb (by simp [go_sem]), cell_up hb (by simp [go_sem]), cell_up hb (by simp [go_sem]), cell_up hb (by simp [go_sem])⟩

/-- What a step's arity and places are told as. -/
def Tells (c d a b e : Int) (k : Nat) (xs : List Int) : Prop := (∀ W, Calls Tryd.prog 36 #[.int .i64 c] W fun r W1 => r = .returned (.int .i64 k) ∧ W = W1) ∧ ∀ W, Calls Tryd.prog 11 #[.agg #[.int .i64 c, .int .i64 d, .int .i64 a, .int .i64 b, .int .i64 e]] W (GivesInts W k xs)

set_option maxRecDepth 100000 in
set_option maxHeartbeats 4000000 in
theorem stepW_form (P : Int) (A1 A2 A3 A4 A5 A6 : Option Addr) (n1 c1 n2 c2 n3 c3 n4 c4 n5 c5 n6 c6 : Nat) (c d a b e : Int) (xs : List Int) (w : World) (T : Tells c d a b e 0 xs) (x1 : (c != 1) = true) (x2 : (c == 1) = false) :
    Calls Tryd.prog 43 #[.agg #[.int .i64 P, .slice A1 n1 c1, .slice A2 n2 c2, .slice A3 n3 c3, .slice A4 n4 c4, .slice A5 n5 c5, .slice A6 n6 c6], .agg #[.int .i64 c, .int .i64 d, .int .i64 a, .int .i64 b, .int .i64 e]] w fun r w' => r = .returned (.iface 36 (.int .i64 3)) ∧ Below w.heap.size w w' := by
  have HA := Lib.hid T.1
  have HK := Lib.hid T.2
  have HC := Lib.hid (fun w2 => scells P A1 A2 A3 A4 A5 A6 n1 c1 n2 c2 n3 c3 n4 c4 n5 c5 n6 c6 c d a b e w w2)
  have HB4 := Lib.hid ((((Below.refl w.heap.size w).alloc (Nat.le_refl _) (Obj.cells #[.int .i64 P, .slice A1 n1 c1, .slice A2 n2 c2, .slice A3 n3 c3, .slice A4 n4 c4, .slice A5 n5 c5, .slice A6 n6 c6] 26)).alloc (by simp only [World.size_alloc]; omega) (Obj.cells #[.int .i64 c, .int .i64 d, .int .i64 a, .int .i64 b, .int .i64 e] 31)).alloc (by simp only [World.size_alloc]; omega) (Obj.cells #[.func (.func 73) #[] #[.pointer (some ⟨w.heap.size, 0, none⟩)]] 74))
  clear T
  go_enter Tryd.func43, Tryd.ntmps43
  go_wp2_with (first | (go_at_call 36; refine (HA.out _).mono ?_; rintro r w1 ⟨rfl, rfl⟩) | (go_at_call 73; refine (in73 P _ w.heap.size _ (by simp [go_sem])).mono ?_; rintro r w1 ⟨rfl, rfl⟩))
  go_ret
  exact ⟨rfl, HB4.out⟩
set_option maxRecDepth 100000 in
set_option maxHeartbeats 4000000 in
theorem stepW_dst0 (P : Int) (A1 A2 A3 A4 A5 A6 : Option Addr) (n1 c1 n2 c2 n3 c3 n4 c4 n5 c5 n6 c6 : Nat) (c d a b e : Int) (xs : List Int) (w : World) (T : Tells c d a b e 0 xs) (x1 : (c != 1) = false) (x2 : (c == 1) = true) (hd : placeB P d = false) :
    Calls Tryd.prog 43 #[.agg #[.int .i64 P, .slice A1 n1 c1, .slice A2 n2 c2, .slice A3 n3 c3, .slice A4 n4 c4, .slice A5 n5 c5, .slice A6 n6 c6], .agg #[.int .i64 c, .int .i64 d, .int .i64 a, .int .i64 b, .int .i64 e]] w fun r w' => r = .returned (.iface 36 (.int .i64 2)) ∧ Below w.heap.size w w' := by
  have HA := Lib.hid T.1
  have HK := Lib.hid T.2
  have HC := Lib.hid (fun w2 => scells P A1 A2 A3 A4 A5 A6 n1 c1 n2 c2 n3 c3 n4 c4 n5 c5 n6 c6 c d a b e w w2)
  have HB4 := Lib.hid ((((Below.refl w.heap.size w).alloc (Nat.le_refl _) (Obj.cells #[.int .i64 P, .slice A1 n1 c1, .slice A2 n2 c2, .slice A3 n3 c3, .slice A4 n4 c4, .slice A5 n5 c5, .slice A6 n6 c6] 26)).alloc (by simp only [World.size_alloc]; omega) (Obj.cells #[.int .i64 c, .int .i64 d, .int .i64 a, .int .i64 b, .int .i64 e] 31)).alloc (by simp only [World.size_alloc]; omega) (Obj.cells #[.func (.func 73) #[] #[.pointer (some ⟨w.heap.size, 0, none⟩)]] 74))
  clear T
  go_enter Tryd.func43, Tryd.ntmps43
  go_wp2_with (first | (go_at_call 36; refine (HA.out _).mono ?_; rintro r w1 ⟨rfl, rfl⟩) | (go_at_call 73; refine (in73 P _ w.heap.size _ (by simp [go_sem])).mono ?_; rintro r w1 ⟨rfl, rfl⟩))
  go_ret
  exact ⟨rfl, HB4.out⟩
set_option maxRecDepth 100000 in
set_option maxHeartbeats 4000000 in
theorem stepW_bad0 (P : Int) (A1 A2 A3 A4 A5 A6 : Option Addr) (n1 c1 n2 c2 n3 c3 n4 c4 n5 c5 n6 c6 : Nat) (c d a b e : Int) (xs : List Int) (w : World) (T : Tells c d a b e 0 xs) (x1 : (c != 1) = false) (x2 : (c == 1) = true) (hd : placeB P d = true) (hb : badB P xs = true) :
    Calls Tryd.prog 43 #[.agg #[.int .i64 P, .slice A1 n1 c1, .slice A2 n2 c2, .slice A3 n3 c3, .slice A4 n4 c4, .slice A5 n5 c5, .slice A6 n6 c6], .agg #[.int .i64 c, .int .i64 d, .int .i64 a, .int .i64 b, .int .i64 e]] w fun r w' => r = .returned (.iface 36 (.int .i64 2)) ∧ Below w.heap.size w w' := by
  have HA := Lib.hid T.1
  have HK := Lib.hid T.2
  have HC := Lib.hid (fun w2 => scells P A1 A2 A3 A4 A5 A6 n1 c1 n2 c2 n3 c3 n4 c4 n5 c5 n6 c6 c d a b e w w2)
  have HB4 := Lib.hid ((((Below.refl w.heap.size w).alloc (Nat.le_refl _) (Obj.cells #[.int .i64 P, .slice A1 n1 c1, .slice A2 n2 c2, .slice A3 n3 c3, .slice A4 n4 c4, .slice A5 n5 c5, .slice A6 n6 c6] 26)).alloc (by simp only [World.size_alloc]; omega) (Obj.cells #[.int .i64 c, .int .i64 d, .int .i64 a, .int .i64 b, .int .i64 e] 31)).alloc (by simp only [World.size_alloc]; omega) (Obj.cells #[.func (.func 73) #[] #[.pointer (some ⟨w.heap.size, 0, none⟩)]] 74))
  clear T
  go_enter Tryd.func43, Tryd.ntmps43
  go_wp2_with (first | (go_at_call 36; refine (HA.out _).mono ?_; rintro r w1 ⟨rfl, rfl⟩) | (go_at_call 73; refine (in73 P _ w.heap.size _ (by simp [go_sem])).mono ?_; rintro r w1 ⟨rfl, rfl⟩) | (go_at_call 11; refine (HK.out _).mono ?_; rintro r w2 ⟨AA, cc, rfl, hcc, hIA, hb2⟩; obtain ⟨q1, q2, q3, q4, q5, q6, q7, q8⟩ := HC.out w2 hb2; have HIA := Lib.hid hIA; have HB2 := Lib.hid hb2; clear hIA hb2) | (go_at_call 40; refine (bad_any AA 0 cc xs P w.heap.size (w.heap.size + 1 + 1) w2 HIA.out (by omega) q1 q8).mono ?_; rintro r w3 ⟨rfl, hb3⟩; obtain ⟨p1, p2, p3, p4, p5, p6, p7, p8⟩ := HC.out w3 (below_up HB2.out hb3); have HB3 := Lib.hid hb3; clear hb3))
  go_ret
  exact ⟨rfl, below_up HB4.out (below_up HB2.out HB3.out)⟩
set_option maxRecDepth 100000 in
set_option maxHeartbeats 4000000 in
theorem stepW_dst1 (P : Int) (A1 A2 A3 A4 A5 A6 : Option Addr) (n1 c1 n2 c2 n3 c3 n4 c4 n5 c5 n6 c6 : Nat) (c d a b e : Int) (xs : List Int) (w : World) (T : Tells c d a b e 1 xs) (x1 : (c != 1) = true) (x2 : (c == 1) = false) (hd : placeB P d = false) :
    Calls Tryd.prog 43 #[.agg #[.int .i64 P, .slice A1 n1 c1, .slice A2 n2 c2, .slice A3 n3 c3, .slice A4 n4 c4, .slice A5 n5 c5, .slice A6 n6 c6], .agg #[.int .i64 c, .int .i64 d, .int .i64 a, .int .i64 b, .int .i64 e]] w fun r w' => r = .returned (.iface 36 (.int .i64 2)) ∧ Below w.heap.size w w' := by
  have HA := Lib.hid T.1
  have HK := Lib.hid T.2
  have HC := Lib.hid (fun w2 => scells P A1 A2 A3 A4 A5 A6 n1 c1 n2 c2 n3 c3 n4 c4 n5 c5 n6 c6 c d a b e w w2)
  have HB4 := Lib.hid ((((Below.refl w.heap.size w).alloc (Nat.le_refl _) (Obj.cells #[.int .i64 P, .slice A1 n1 c1, .slice A2 n2 c2, .slice A3 n3 c3, .slice A4 n4 c4, .slice A5 n5 c5, .slice A6 n6 c6] 26)).alloc (by simp only [World.size_alloc]; omega) (Obj.cells #[.int .i64 c, .int .i64 d, .int .i64 a, .int .i64 b, .int .i64 e] 31)).alloc (by simp only [World.size_alloc]; omega) (Obj.cells #[.func (.func 73) #[] #[.pointer (some ⟨w.heap.size, 0, none⟩)]] 74))
  clear T
  go_enter Tryd.func43, Tryd.ntmps43
  go_wp2_with (first | (go_at_call 36; refine (HA.out _).mono ?_; rintro r w1 ⟨rfl, rfl⟩) | (go_at_call 73; refine (in73 P _ w.heap.size _ (by simp [go_sem])).mono ?_; rintro r w1 ⟨rfl, rfl⟩))
  go_ret
  exact ⟨rfl, HB4.out⟩
set_option maxRecDepth 100000 in
set_option maxHeartbeats 4000000 in
theorem stepW_bad1 (P : Int) (A1 A2 A3 A4 A5 A6 : Option Addr) (n1 c1 n2 c2 n3 c3 n4 c4 n5 c5 n6 c6 : Nat) (c d a b e : Int) (xs : List Int) (w : World) (T : Tells c d a b e 1 xs) (x1 : (c != 1) = true) (x2 : (c == 1) = false) (hd : placeB P d = true) (hb : badB P xs = true) :
    Calls Tryd.prog 43 #[.agg #[.int .i64 P, .slice A1 n1 c1, .slice A2 n2 c2, .slice A3 n3 c3, .slice A4 n4 c4, .slice A5 n5 c5, .slice A6 n6 c6], .agg #[.int .i64 c, .int .i64 d, .int .i64 a, .int .i64 b, .int .i64 e]] w fun r w' => r = .returned (.iface 36 (.int .i64 2)) ∧ Below w.heap.size w w' := by
  have HA := Lib.hid T.1
  have HK := Lib.hid T.2
  have HC := Lib.hid (fun w2 => scells P A1 A2 A3 A4 A5 A6 n1 c1 n2 c2 n3 c3 n4 c4 n5 c5 n6 c6 c d a b e w w2)
  have HB4 := Lib.hid ((((Below.refl w.heap.size w).alloc (Nat.le_refl _) (Obj.cells #[.int .i64 P, .slice A1 n1 c1, .slice A2 n2 c2, .slice A3 n3 c3, .slice A4 n4 c4, .slice A5 n5 c5, .slice A6 n6 c6] 26)).alloc (by simp only [World.size_alloc]; omega) (Obj.cells #[.int .i64 c, .int .i64 d, .int .i64 a, .int .i64 b, .int .i64 e] 31)).alloc (by simp only [World.size_alloc]; omega) (Obj.cells #[.func (.func 73) #[] #[.pointer (some ⟨w.heap.size, 0, none⟩)]] 74))
  clear T
  go_enter Tryd.func43, Tryd.ntmps43
  go_wp2_with (first | (go_at_call 36; refine (HA.out _).mono ?_; rintro r w1 ⟨rfl, rfl⟩) | (go_at_call 73; refine (in73 P _ w.heap.size _ (by simp [go_sem])).mono ?_; rintro r w1 ⟨rfl, rfl⟩) | (go_at_call 11; refine (HK.out _).mono ?_; rintro r w2 ⟨AA, cc, rfl, hcc, hIA, hb2⟩; obtain ⟨q1, q2, q3, q4, q5, q6, q7, q8⟩ := HC.out w2 hb2; have HIA := Lib.hid hIA; have HB2 := Lib.hid hb2; clear hIA hb2) | (go_at_call 40; refine (bad_any AA 1 cc xs P w.heap.size (w.heap.size + 1 + 1) w2 HIA.out (by omega) q1 q8).mono ?_; rintro r w3 ⟨rfl, hb3⟩; obtain ⟨p1, p2, p3, p4, p5, p6, p7, p8⟩ := HC.out w3 (below_up HB2.out hb3); have HB3 := Lib.hid hb3; clear hb3))
  go_ret
  exact ⟨rfl, below_up HB4.out (below_up HB2.out HB3.out)⟩
set_option maxRecDepth 100000 in
set_option maxHeartbeats 4000000 in
theorem stepW_dst2 (P : Int) (A1 A2 A3 A4 A5 A6 : Option Addr) (n1 c1 n2 c2 n3 c3 n4 c4 n5 c5 n6 c6 : Nat) (c d a b e : Int) (xs : List Int) (w : World) (T : Tells c d a b e 2 xs) (x1 : (c != 1) = true) (x2 : (c == 1) = false) (hd : placeB P d = false) :
    Calls Tryd.prog 43 #[.agg #[.int .i64 P, .slice A1 n1 c1, .slice A2 n2 c2, .slice A3 n3 c3, .slice A4 n4 c4, .slice A5 n5 c5, .slice A6 n6 c6], .agg #[.int .i64 c, .int .i64 d, .int .i64 a, .int .i64 b, .int .i64 e]] w fun r w' => r = .returned (.iface 36 (.int .i64 2)) ∧ Below w.heap.size w w' := by
  have HA := Lib.hid T.1
  have HK := Lib.hid T.2
  have HC := Lib.hid (fun w2 => scells P A1 A2 A3 A4 A5 A6 n1 c1 n2 c2 n3 c3 n4 c4 n5 c5 n6 c6 c d a b e w w2)
  have HB4 := Lib.hid ((((Below.refl w.heap.size w).alloc (Nat.le_refl _) (Obj.cells #[.int .i64 P, .slice A1 n1 c1, .slice A2 n2 c2, .slice A3 n3 c3, .slice A4 n4 c4, .slice A5 n5 c5, .slice A6 n6 c6] 26)).alloc (by simp only [World.size_alloc]; omega) (Obj.cells #[.int .i64 c, .int .i64 d, .int .i64 a, .int .i64 b, .int .i64 e] 31)).alloc (by simp only [World.size_alloc]; omega) (Obj.cells #[.func (.func 73) #[] #[.pointer (some ⟨w.heap.size, 0, none⟩)]] 74))
  clear T
  go_enter Tryd.func43, Tryd.ntmps43
  go_wp2_with (first | (go_at_call 36; refine (HA.out _).mono ?_; rintro r w1 ⟨rfl, rfl⟩) | (go_at_call 73; refine (in73 P _ w.heap.size _ (by simp [go_sem])).mono ?_; rintro r w1 ⟨rfl, rfl⟩))
  go_ret
  exact ⟨rfl, HB4.out⟩
set_option maxRecDepth 100000 in
set_option maxHeartbeats 4000000 in
theorem stepW_bad2 (P : Int) (A1 A2 A3 A4 A5 A6 : Option Addr) (n1 c1 n2 c2 n3 c3 n4 c4 n5 c5 n6 c6 : Nat) (c d a b e : Int) (xs : List Int) (w : World) (T : Tells c d a b e 2 xs) (x1 : (c != 1) = true) (x2 : (c == 1) = false) (hd : placeB P d = true) (hb : badB P xs = true) :
    Calls Tryd.prog 43 #[.agg #[.int .i64 P, .slice A1 n1 c1, .slice A2 n2 c2, .slice A3 n3 c3, .slice A4 n4 c4, .slice A5 n5 c5, .slice A6 n6 c6], .agg #[.int .i64 c, .int .i64 d, .int .i64 a, .int .i64 b, .int .i64 e]] w fun r w' => r = .returned (.iface 36 (.int .i64 2)) ∧ Below w.heap.size w w' := by
  have HA := Lib.hid T.1
  have HK := Lib.hid T.2
  have HC := Lib.hid (fun w2 => scells P A1 A2 A3 A4 A5 A6 n1 c1 n2 c2 n3 c3 n4 c4 n5 c5 n6 c6 c d a b e w w2)
  have HB4 := Lib.hid ((((Below.refl w.heap.size w).alloc (Nat.le_refl _) (Obj.cells #[.int .i64 P, .slice A1 n1 c1, .slice A2 n2 c2, .slice A3 n3 c3, .slice A4 n4 c4, .slice A5 n5 c5, .slice A6 n6 c6] 26)).alloc (by simp only [World.size_alloc]; omega) (Obj.cells #[.int .i64 c, .int .i64 d, .int .i64 a, .int .i64 b, .int .i64 e] 31)).alloc (by simp only [World.size_alloc]; omega) (Obj.cells #[.func (.func 73) #[] #[.pointer (some ⟨w.heap.size, 0, none⟩)]] 74))
  clear T
  go_enter Tryd.func43, Tryd.ntmps43
  go_wp2_with (first | (go_at_call 36; refine (HA.out _).mono ?_; rintro r w1 ⟨rfl, rfl⟩) | (go_at_call 73; refine (in73 P _ w.heap.size _ (by simp [go_sem])).mono ?_; rintro r w1 ⟨rfl, rfl⟩) | (go_at_call 11; refine (HK.out _).mono ?_; rintro r w2 ⟨AA, cc, rfl, hcc, hIA, hb2⟩; obtain ⟨q1, q2, q3, q4, q5, q6, q7, q8⟩ := HC.out w2 hb2; have HIA := Lib.hid hIA; have HB2 := Lib.hid hb2; clear hIA hb2) | (go_at_call 40; refine (bad_any AA 2 cc xs P w.heap.size (w.heap.size + 1 + 1) w2 HIA.out (by omega) q1 q8).mono ?_; rintro r w3 ⟨rfl, hb3⟩; obtain ⟨p1, p2, p3, p4, p5, p6, p7, p8⟩ := HC.out w3 (below_up HB2.out hb3); have HB3 := Lib.hid hb3; clear hb3))
  go_ret
  exact ⟨rfl, below_up HB4.out (below_up HB2.out HB3.out)⟩
set_option maxRecDepth 100000 in
set_option maxHeartbeats 4000000 in
theorem stepW_dst3 (P : Int) (A1 A2 A3 A4 A5 A6 : Option Addr) (n1 c1 n2 c2 n3 c3 n4 c4 n5 c5 n6 c6 : Nat) (c d a b e : Int) (xs : List Int) (w : World) (T : Tells c d a b e 3 xs) (x1 : (c != 1) = true) (x2 : (c == 1) = false) (hd : placeB P d = false) :
    Calls Tryd.prog 43 #[.agg #[.int .i64 P, .slice A1 n1 c1, .slice A2 n2 c2, .slice A3 n3 c3, .slice A4 n4 c4, .slice A5 n5 c5, .slice A6 n6 c6], .agg #[.int .i64 c, .int .i64 d, .int .i64 a, .int .i64 b, .int .i64 e]] w fun r w' => r = .returned (.iface 36 (.int .i64 2)) ∧ Below w.heap.size w w' := by
  have HA := Lib.hid T.1
  have HK := Lib.hid T.2
  have HC := Lib.hid (fun w2 => scells P A1 A2 A3 A4 A5 A6 n1 c1 n2 c2 n3 c3 n4 c4 n5 c5 n6 c6 c d a b e w w2)
  have HB4 := Lib.hid ((((Below.refl w.heap.size w).alloc (Nat.le_refl _) (Obj.cells #[.int .i64 P, .slice A1 n1 c1, .slice A2 n2 c2, .slice A3 n3 c3, .slice A4 n4 c4, .slice A5 n5 c5, .slice A6 n6 c6] 26)).alloc (by simp only [World.size_alloc]; omega) (Obj.cells #[.int .i64 c, .int .i64 d, .int .i64 a, .int .i64 b, .int .i64 e] 31)).alloc (by simp only [World.size_alloc]; omega) (Obj.cells #[.func (.func 73) #[] #[.pointer (some ⟨w.heap.size, 0, none⟩)]] 74))
  clear T
  go_enter Tryd.func43, Tryd.ntmps43
  go_wp2_with (first | (go_at_call 36; refine (HA.out _).mono ?_; rintro r w1 ⟨rfl, rfl⟩) | (go_at_call 73; refine (in73 P _ w.heap.size _ (by simp [go_sem])).mono ?_; rintro r w1 ⟨rfl, rfl⟩))
  go_ret
  exact ⟨rfl, HB4.out⟩
set_option maxRecDepth 100000 in
set_option maxHeartbeats 4000000 in
theorem stepW_bad3 (P : Int) (A1 A2 A3 A4 A5 A6 : Option Addr) (n1 c1 n2 c2 n3 c3 n4 c4 n5 c5 n6 c6 : Nat) (c d a b e : Int) (xs : List Int) (w : World) (T : Tells c d a b e 3 xs) (x1 : (c != 1) = true) (x2 : (c == 1) = false) (hd : placeB P d = true) (hb : badB P xs = true) :
    Calls Tryd.prog 43 #[.agg #[.int .i64 P, .slice A1 n1 c1, .slice A2 n2 c2, .slice A3 n3 c3, .slice A4 n4 c4, .slice A5 n5 c5, .slice A6 n6 c6], .agg #[.int .i64 c, .int .i64 d, .int .i64 a, .int .i64 b, .int .i64 e]] w fun r w' => r = .returned (.iface 36 (.int .i64 2)) ∧ Below w.heap.size w w' := by
  have HA := Lib.hid T.1
  have HK := Lib.hid T.2
  have HC := Lib.hid (fun w2 => scells P A1 A2 A3 A4 A5 A6 n1 c1 n2 c2 n3 c3 n4 c4 n5 c5 n6 c6 c d a b e w w2)
  have HB4 := Lib.hid ((((Below.refl w.heap.size w).alloc (Nat.le_refl _) (Obj.cells #[.int .i64 P, .slice A1 n1 c1, .slice A2 n2 c2, .slice A3 n3 c3, .slice A4 n4 c4, .slice A5 n5 c5, .slice A6 n6 c6] 26)).alloc (by simp only [World.size_alloc]; omega) (Obj.cells #[.int .i64 c, .int .i64 d, .int .i64 a, .int .i64 b, .int .i64 e] 31)).alloc (by simp only [World.size_alloc]; omega) (Obj.cells #[.func (.func 73) #[] #[.pointer (some ⟨w.heap.size, 0, none⟩)]] 74))
  clear T
  go_enter Tryd.func43, Tryd.ntmps43
  go_wp2_with (first | (go_at_call 36; refine (HA.out _).mono ?_; rintro r w1 ⟨rfl, rfl⟩) | (go_at_call 73; refine (in73 P _ w.heap.size _ (by simp [go_sem])).mono ?_; rintro r w1 ⟨rfl, rfl⟩) | (go_at_call 11; refine (HK.out _).mono ?_; rintro r w2 ⟨AA, cc, rfl, hcc, hIA, hb2⟩; obtain ⟨q1, q2, q3, q4, q5, q6, q7, q8⟩ := HC.out w2 hb2; have HIA := Lib.hid hIA; have HB2 := Lib.hid hb2; clear hIA hb2) | (go_at_call 40; refine (bad_any AA 3 cc xs P w.heap.size (w.heap.size + 1 + 1) w2 HIA.out (by omega) q1 q8).mono ?_; rintro r w3 ⟨rfl, hb3⟩; obtain ⟨p1, p2, p3, p4, p5, p6, p7, p8⟩ := HC.out w3 (below_up HB2.out hb3); have HB3 := Lib.hid hb3; clear hb3))
  go_ret
  exact ⟨rfl, below_up HB4.out (below_up HB2.out HB3.out)⟩
set_option maxRecDepth 100000 in
set_option maxHeartbeats 4000000 in
theorem stepW_numlo (P : Int) (A1 A2 A3 A4 A5 A6 : Option Addr) (n1 c1 n2 c2 n3 c3 n4 c4 n5 c5 n6 c6 : Nat) (c d a b e : Int) (xs : List Int) (w : World) (T : Tells c d a b e 0 xs) (x1 : (c != 1) = false) (x2 : (c == 1) = true) (hd : placeB P d = true) (hb : badB P xs = false) (a1 : decide (a < (0 : Int)) = true) (a2 : a < 0) :
    Calls Tryd.prog 43 #[.agg #[.int .i64 P, .slice A1 n1 c1, .slice A2 n2 c2, .slice A3 n3 c3, .slice A4 n4 c4, .slice A5 n5 c5, .slice A6 n6 c6], .agg #[.int .i64 c, .int .i64 d, .int .i64 a, .int .i64 b, .int .i64 e]] w fun r w' => r = .returned (.iface 36 (.int .i64 2)) ∧ Below w.heap.size w w' := by
  have HA := Lib.hid T.1
  have HK := Lib.hid T.2
  have HC := Lib.hid (fun w2 => scells P A1 A2 A3 A4 A5 A6 n1 c1 n2 c2 n3 c3 n4 c4 n5 c5 n6 c6 c d a b e w w2)
  have HB4 := Lib.hid ((((Below.refl w.heap.size w).alloc (Nat.le_refl _) (Obj.cells #[.int .i64 P, .slice A1 n1 c1, .slice A2 n2 c2, .slice A3 n3 c3, .slice A4 n4 c4, .slice A5 n5 c5, .slice A6 n6 c6] 26)).alloc (by simp only [World.size_alloc]; omega) (Obj.cells #[.int .i64 c, .int .i64 d, .int .i64 a, .int .i64 b, .int .i64 e] 31)).alloc (by simp only [World.size_alloc]; omega) (Obj.cells #[.func (.func 73) #[] #[.pointer (some ⟨w.heap.size, 0, none⟩)]] 74))
  clear T
  go_enter Tryd.func43, Tryd.ntmps43
  go_wp2_with (first | (go_at_call 36; refine (HA.out _).mono ?_; rintro r w1 ⟨rfl, rfl⟩) | (go_at_call 73; refine (in73 P _ w.heap.size _ (by simp [go_sem])).mono ?_; rintro r w1 ⟨rfl, rfl⟩) | (go_at_call 11; refine (HK.out _).mono ?_; rintro r w2 ⟨AA, cc, rfl, hcc, hIA, hb2⟩; obtain ⟨q1, q2, q3, q4, q5, q6, q7, q8⟩ := HC.out w2 hb2; have HIA := Lib.hid hIA; have HB2 := Lib.hid hb2; clear hIA hb2) | (go_at_call 40; refine (bad_any AA 0 cc xs P w.heap.size (w.heap.size + 1 + 1) w2 HIA.out (by omega) q1 q8).mono ?_; rintro r w3 ⟨rfl, hb3⟩; obtain ⟨p1, p2, p3, p4, p5, p6, p7, p8⟩ := HC.out w3 (below_up HB2.out hb3); have HB3 := Lib.hid hb3; clear hb3))
  go_ret
  exact ⟨rfl, below_up HB4.out (below_up HB2.out HB3.out)⟩
set_option maxRecDepth 100000 in
set_option maxHeartbeats 4000000 in
theorem stepW_numhi (P : Int) (A1 A2 A3 A4 A5 A6 : Option Addr) (n1 c1 n2 c2 n3 c3 n4 c4 n5 c5 n6 c6 : Nat) (c d a b e : Int) (xs : List Int) (w : World) (T : Tells c d a b e 0 xs) (x1 : (c != 1) = false) (x2 : (c == 1) = true) (hd : placeB P d = true) (hb : badB P xs = false) (a1 : decide (a < (0 : Int)) = false) (a2 : 0 ≤ a) (a3 : (n5 : Int) ≤ a) :
    Calls Tryd.prog 43 #[.agg #[.int .i64 P, .slice A1 n1 c1, .slice A2 n2 c2, .slice A3 n3 c3, .slice A4 n4 c4, .slice A5 n5 c5, .slice A6 n6 c6], .agg #[.int .i64 c, .int .i64 d, .int .i64 a, .int .i64 b, .int .i64 e]] w fun r w' => r = .returned (.iface 36 (.int .i64 2)) ∧ Below w.heap.size w w' := by
  have HA := Lib.hid T.1
  have HK := Lib.hid T.2
  have HC := Lib.hid (fun w2 => scells P A1 A2 A3 A4 A5 A6 n1 c1 n2 c2 n3 c3 n4 c4 n5 c5 n6 c6 c d a b e w w2)
  have HB4 := Lib.hid ((((Below.refl w.heap.size w).alloc (Nat.le_refl _) (Obj.cells #[.int .i64 P, .slice A1 n1 c1, .slice A2 n2 c2, .slice A3 n3 c3, .slice A4 n4 c4, .slice A5 n5 c5, .slice A6 n6 c6] 26)).alloc (by simp only [World.size_alloc]; omega) (Obj.cells #[.int .i64 c, .int .i64 d, .int .i64 a, .int .i64 b, .int .i64 e] 31)).alloc (by simp only [World.size_alloc]; omega) (Obj.cells #[.func (.func 73) #[] #[.pointer (some ⟨w.heap.size, 0, none⟩)]] 74))
  clear T
  go_enter Tryd.func43, Tryd.ntmps43
  go_wp2_with (first | (go_at_call 36; refine (HA.out _).mono ?_; rintro r w1 ⟨rfl, rfl⟩) | (go_at_call 73; refine (in73 P _ w.heap.size _ (by simp [go_sem])).mono ?_; rintro r w1 ⟨rfl, rfl⟩) | (go_at_call 11; refine (HK.out _).mono ?_; rintro r w2 ⟨AA, cc, rfl, hcc, hIA, hb2⟩; obtain ⟨q1, q2, q3, q4, q5, q6, q7, q8⟩ := HC.out w2 hb2; have HIA := Lib.hid hIA; have HB2 := Lib.hid hb2; clear hIA hb2) | (go_at_call 40; refine (bad_any AA 0 cc xs P w.heap.size (w.heap.size + 1 + 1) w2 HIA.out (by omega) q1 q8).mono ?_; rintro r w3 ⟨rfl, hb3⟩; obtain ⟨p1, p2, p3, p4, p5, p6, p7, p8⟩ := HC.out w3 (below_up HB2.out hb3); have HB3 := Lib.hid hb3; clear hb3))
  go_ret
  exact ⟨rfl, below_up HB4.out (below_up HB2.out HB3.out)⟩
set_option maxRecDepth 100000 in
set_option maxHeartbeats 4000000 in
theorem stepW_arg0b (P : Int) (A1 A2 A3 A4 A5 A6 : Option Addr) (n1 c1 n2 c2 n3 c3 n4 c4 n5 c5 n6 c6 : Nat) (c d a b e : Int) (xs : List Int) (w : World) (T : Tells c d a b e 0 xs) (x1 : (c != 1) = false) (x2 : (c == 1) = true) (hd : placeB P d = true) (hb : badB P xs = false) (a1 : decide (a < (0 : Int)) = false) (a2 : 0 ≤ a) (a3 : a < (n5 : Int)) (b1 : (b != 0) = true) :
    Calls Tryd.prog 43 #[.agg #[.int .i64 P, .slice A1 n1 c1, .slice A2 n2 c2, .slice A3 n3 c3, .slice A4 n4 c4, .slice A5 n5 c5, .slice A6 n6 c6], .agg #[.int .i64 c, .int .i64 d, .int .i64 a, .int .i64 b, .int .i64 e]] w fun r w' => r = .returned (.iface 36 (.int .i64 1)) ∧ Below w.heap.size w w' := by
  have HA := Lib.hid T.1
  have HK := Lib.hid T.2
  have HC := Lib.hid (fun w2 => scells P A1 A2 A3 A4 A5 A6 n1 c1 n2 c2 n3 c3 n4 c4 n5 c5 n6 c6 c d a b e w w2)
  have HB4 := Lib.hid ((((Below.refl w.heap.size w).alloc (Nat.le_refl _) (Obj.cells #[.int .i64 P, .slice A1 n1 c1, .slice A2 n2 c2, .slice A3 n3 c3, .slice A4 n4 c4, .slice A5 n5 c5, .slice A6 n6 c6] 26)).alloc (by simp only [World.size_alloc]; omega) (Obj.cells #[.int .i64 c, .int .i64 d, .int .i64 a, .int .i64 b, .int .i64 e] 31)).alloc (by simp only [World.size_alloc]; omega) (Obj.cells #[.func (.func 73) #[] #[.pointer (some ⟨w.heap.size, 0, none⟩)]] 74))
  clear T
  go_enter Tryd.func43, Tryd.ntmps43
  go_wp2_with (first | (go_at_call 36; refine (HA.out _).mono ?_; rintro r w1 ⟨rfl, rfl⟩) | (go_at_call 73; refine (in73 P _ w.heap.size _ (by simp [go_sem])).mono ?_; rintro r w1 ⟨rfl, rfl⟩) | (go_at_call 11; refine (HK.out _).mono ?_; rintro r w2 ⟨AA, cc, rfl, hcc, hIA, hb2⟩; obtain ⟨q1, q2, q3, q4, q5, q6, q7, q8⟩ := HC.out w2 hb2; have HIA := Lib.hid hIA; have HB2 := Lib.hid hb2; clear hIA hb2) | (go_at_call 40; refine (bad_any AA 0 cc xs P w.heap.size (w.heap.size + 1 + 1) w2 HIA.out (by omega) q1 q8).mono ?_; rintro r w3 ⟨rfl, hb3⟩; obtain ⟨p1, p2, p3, p4, p5, p6, p7, p8⟩ := HC.out w3 (below_up HB2.out hb3); have HB3 := Lib.hid hb3; clear hb3))
  go_ret
  exact ⟨rfl, below_up HB4.out (below_up HB2.out HB3.out)⟩
set_option maxRecDepth 100000 in
set_option maxHeartbeats 4000000 in
theorem stepW_arg0e (P : Int) (A1 A2 A3 A4 A5 A6 : Option Addr) (n1 c1 n2 c2 n3 c3 n4 c4 n5 c5 n6 c6 : Nat) (c d a b e : Int) (xs : List Int) (w : World) (T : Tells c d a b e 0 xs) (x1 : (c != 1) = false) (x2 : (c == 1) = true) (hd : placeB P d = true) (hb : badB P xs = false) (a1 : decide (a < (0 : Int)) = false) (a2 : 0 ≤ a) (a3 : a < (n5 : Int)) (b1 : (b != 0) = false) (e1 : (e != 0) = true) :
    Calls Tryd.prog 43 #[.agg #[.int .i64 P, .slice A1 n1 c1, .slice A2 n2 c2, .slice A3 n3 c3, .slice A4 n4 c4, .slice A5 n5 c5, .slice A6 n6 c6], .agg #[.int .i64 c, .int .i64 d, .int .i64 a, .int .i64 b, .int .i64 e]] w fun r w' => r = .returned (.iface 36 (.int .i64 1)) ∧ Below w.heap.size w w' := by
  have HA := Lib.hid T.1
  have HK := Lib.hid T.2
  have HC := Lib.hid (fun w2 => scells P A1 A2 A3 A4 A5 A6 n1 c1 n2 c2 n3 c3 n4 c4 n5 c5 n6 c6 c d a b e w w2)
  have HB4 := Lib.hid ((((Below.refl w.heap.size w).alloc (Nat.le_refl _) (Obj.cells #[.int .i64 P, .slice A1 n1 c1, .slice A2 n2 c2, .slice A3 n3 c3, .slice A4 n4 c4, .slice A5 n5 c5, .slice A6 n6 c6] 26)).alloc (by simp only [World.size_alloc]; omega) (Obj.cells #[.int .i64 c, .int .i64 d, .int .i64 a, .int .i64 b, .int .i64 e] 31)).alloc (by simp only [World.size_alloc]; omega) (Obj.cells #[.func (.func 73) #[] #[.pointer (some ⟨w.heap.size, 0, none⟩)]] 74))
  clear T
  go_enter Tryd.func43, Tryd.ntmps43
  go_wp2_with (first | (go_at_call 36; refine (HA.out _).mono ?_; rintro r w1 ⟨rfl, rfl⟩) | (go_at_call 73; refine (in73 P _ w.heap.size _ (by simp [go_sem])).mono ?_; rintro r w1 ⟨rfl, rfl⟩) | (go_at_call 11; refine (HK.out _).mono ?_; rintro r w2 ⟨AA, cc, rfl, hcc, hIA, hb2⟩; obtain ⟨q1, q2, q3, q4, q5, q6, q7, q8⟩ := HC.out w2 hb2; have HIA := Lib.hid hIA; have HB2 := Lib.hid hb2; clear hIA hb2) | (go_at_call 40; refine (bad_any AA 0 cc xs P w.heap.size (w.heap.size + 1 + 1) w2 HIA.out (by omega) q1 q8).mono ?_; rintro r w3 ⟨rfl, hb3⟩; obtain ⟨p1, p2, p3, p4, p5, p6, p7, p8⟩ := HC.out w3 (below_up HB2.out hb3); have HB3 := Lib.hid hb3; clear hb3))
  go_ret
  exact ⟨rfl, below_up HB4.out (below_up HB2.out HB3.out)⟩
set_option maxRecDepth 100000 in
set_option maxHeartbeats 4000000 in
theorem stepW_ok0 (P : Int) (A1 A2 A3 A4 A5 A6 : Option Addr) (n1 c1 n2 c2 n3 c3 n4 c4 n5 c5 n6 c6 : Nat) (c d a b e : Int) (xs : List Int) (w : World) (T : Tells c d a b e 0 xs) (x1 : (c != 1) = false) (x2 : (c == 1) = true) (hd : placeB P d = true) (hb : badB P xs = false) (a1 : decide (a < (0 : Int)) = false) (a2 : 0 ≤ a) (a3 : a < (n5 : Int)) (b1 : (b != 0) = false) (e1 : (e != 0) = false) :
    Calls Tryd.prog 43 #[.agg #[.int .i64 P, .slice A1 n1 c1, .slice A2 n2 c2, .slice A3 n3 c3, .slice A4 n4 c4, .slice A5 n5 c5, .slice A6 n6 c6], .agg #[.int .i64 c, .int .i64 d, .int .i64 a, .int .i64 b, .int .i64 e]] w fun r w' => r = .returned (.nilIface) ∧ Below w.heap.size w w' := by
  have HA := Lib.hid T.1
  have HK := Lib.hid T.2
  have HC := Lib.hid (fun w2 => scells P A1 A2 A3 A4 A5 A6 n1 c1 n2 c2 n3 c3 n4 c4 n5 c5 n6 c6 c d a b e w w2)
  have HB4 := Lib.hid ((((Below.refl w.heap.size w).alloc (Nat.le_refl _) (Obj.cells #[.int .i64 P, .slice A1 n1 c1, .slice A2 n2 c2, .slice A3 n3 c3, .slice A4 n4 c4, .slice A5 n5 c5, .slice A6 n6 c6] 26)).alloc (by simp only [World.size_alloc]; omega) (Obj.cells #[.int .i64 c, .int .i64 d, .int .i64 a, .int .i64 b, .int .i64 e] 31)).alloc (by simp only [World.size_alloc]; omega) (Obj.cells #[.func (.func 73) #[] #[.pointer (some ⟨w.heap.size, 0, none⟩)]] 74))
  clear T
  go_enter Tryd.func43, Tryd.ntmps43
  go_wp2_with (first | (go_at_call 36; refine (HA.out _).mono ?_; rintro r w1 ⟨rfl, rfl⟩) | (go_at_call 73; refine (in73 P _ w.heap.size _ (by simp [go_sem])).mono ?_; rintro r w1 ⟨rfl, rfl⟩) | (go_at_call 11; refine (HK.out _).mono ?_; rintro r w2 ⟨AA, cc, rfl, hcc, hIA, hb2⟩; obtain ⟨q1, q2, q3, q4, q5, q6, q7, q8⟩ := HC.out w2 hb2; have HIA := Lib.hid hIA; have HB2 := Lib.hid hb2; clear hIA hb2) | (go_at_call 40; refine (bad_any AA 0 cc xs P w.heap.size (w.heap.size + 1 + 1) w2 HIA.out (by omega) q1 q8).mono ?_; rintro r w3 ⟨rfl, hb3⟩; obtain ⟨p1, p2, p3, p4, p5, p6, p7, p8⟩ := HC.out w3 (below_up HB2.out hb3); have HB3 := Lib.hid hb3; clear hb3))
  go_ret
  exact ⟨rfl, below_up HB4.out (below_up HB2.out HB3.out)⟩
set_option maxRecDepth 100000 in
set_option maxHeartbeats 4000000 in
theorem stepW_arg1b (P : Int) (A1 A2 A3 A4 A5 A6 : Option Addr) (n1 c1 n2 c2 n3 c3 n4 c4 n5 c5 n6 c6 : Nat) (c d a b e : Int) (xs : List Int) (w : World) (T : Tells c d a b e 1 xs) (x1 : (c != 1) = true) (x2 : (c == 1) = false) (hd : placeB P d = true) (hb : badB P xs = false) (b1 : (b != 0) = true) :
    Calls Tryd.prog 43 #[.agg #[.int .i64 P, .slice A1 n1 c1, .slice A2 n2 c2, .slice A3 n3 c3, .slice A4 n4 c4, .slice A5 n5 c5, .slice A6 n6 c6], .agg #[.int .i64 c, .int .i64 d, .int .i64 a, .int .i64 b, .int .i64 e]] w fun r w' => r = .returned (.iface 36 (.int .i64 1)) ∧ Below w.heap.size w w' := by
  have HA := Lib.hid T.1
  have HK := Lib.hid T.2
  have HC := Lib.hid (fun w2 => scells P A1 A2 A3 A4 A5 A6 n1 c1 n2 c2 n3 c3 n4 c4 n5 c5 n6 c6 c d a b e w w2)
  have HB4 := Lib.hid ((((Below.refl w.heap.size w).alloc (Nat.le_refl _) (Obj.cells #[.int .i64 P, .slice A1 n1 c1, .slice A2 n2 c2, .slice A3 n3 c3, .slice A4 n4 c4, .slice A5 n5 c5, .slice A6 n6 c6] 26)).alloc (by simp only [World.size_alloc]; omega) (Obj.cells #[.int .i64 c, .int .i64 d, .int .i64 a, .int .i64 b, .int .i64 e] 31)).alloc (by simp only [World.size_alloc]; omega) (Obj.cells #[.func (.func 73) #[] #[.pointer (some ⟨w.heap.size, 0, none⟩)]] 74))
  clear T
  go_enter Tryd.func43, Tryd.ntmps43
  go_wp2_with (first | (go_at_call 36; refine (HA.out _).mono ?_; rintro r w1 ⟨rfl, rfl⟩) | (go_at_call 73; refine (in73 P _ w.heap.size _ (by simp [go_sem])).mono ?_; rintro r w1 ⟨rfl, rfl⟩) | (go_at_call 11; refine (HK.out _).mono ?_; rintro r w2 ⟨AA, cc, rfl, hcc, hIA, hb2⟩; obtain ⟨q1, q2, q3, q4, q5, q6, q7, q8⟩ := HC.out w2 hb2; have HIA := Lib.hid hIA; have HB2 := Lib.hid hb2; clear hIA hb2) | (go_at_call 40; refine (bad_any AA 1 cc xs P w.heap.size (w.heap.size + 1 + 1) w2 HIA.out (by omega) q1 q8).mono ?_; rintro r w3 ⟨rfl, hb3⟩; obtain ⟨p1, p2, p3, p4, p5, p6, p7, p8⟩ := HC.out w3 (below_up HB2.out hb3); have HB3 := Lib.hid hb3; clear hb3))
  go_ret
  exact ⟨rfl, below_up HB4.out (below_up HB2.out HB3.out)⟩
set_option maxRecDepth 100000 in
set_option maxHeartbeats 4000000 in
theorem stepW_arg1e (P : Int) (A1 A2 A3 A4 A5 A6 : Option Addr) (n1 c1 n2 c2 n3 c3 n4 c4 n5 c5 n6 c6 : Nat) (c d a b e : Int) (xs : List Int) (w : World) (T : Tells c d a b e 1 xs) (x1 : (c != 1) = true) (x2 : (c == 1) = false) (hd : placeB P d = true) (hb : badB P xs = false) (b1 : (b != 0) = false) (e1 : (e != 0) = true) :
    Calls Tryd.prog 43 #[.agg #[.int .i64 P, .slice A1 n1 c1, .slice A2 n2 c2, .slice A3 n3 c3, .slice A4 n4 c4, .slice A5 n5 c5, .slice A6 n6 c6], .agg #[.int .i64 c, .int .i64 d, .int .i64 a, .int .i64 b, .int .i64 e]] w fun r w' => r = .returned (.iface 36 (.int .i64 1)) ∧ Below w.heap.size w w' := by
  have HA := Lib.hid T.1
  have HK := Lib.hid T.2
  have HC := Lib.hid (fun w2 => scells P A1 A2 A3 A4 A5 A6 n1 c1 n2 c2 n3 c3 n4 c4 n5 c5 n6 c6 c d a b e w w2)
  have HB4 := Lib.hid ((((Below.refl w.heap.size w).alloc (Nat.le_refl _) (Obj.cells #[.int .i64 P, .slice A1 n1 c1, .slice A2 n2 c2, .slice A3 n3 c3, .slice A4 n4 c4, .slice A5 n5 c5, .slice A6 n6 c6] 26)).alloc (by simp only [World.size_alloc]; omega) (Obj.cells #[.int .i64 c, .int .i64 d, .int .i64 a, .int .i64 b, .int .i64 e] 31)).alloc (by simp only [World.size_alloc]; omega) (Obj.cells #[.func (.func 73) #[] #[.pointer (some ⟨w.heap.size, 0, none⟩)]] 74))
  clear T
  go_enter Tryd.func43, Tryd.ntmps43
  go_wp2_with (first | (go_at_call 36; refine (HA.out _).mono ?_; rintro r w1 ⟨rfl, rfl⟩) | (go_at_call 73; refine (in73 P _ w.heap.size _ (by simp [go_sem])).mono ?_; rintro r w1 ⟨rfl, rfl⟩) | (go_at_call 11; refine (HK.out _).mono ?_; rintro r w2 ⟨AA, cc, rfl, hcc, hIA, hb2⟩; obtain ⟨q1, q2, q3, q4, q5, q6, q7, q8⟩ := HC.out w2 hb2; have HIA := Lib.hid hIA; have HB2 := Lib.hid hb2; clear hIA hb2) | (go_at_call 40; refine (bad_any AA 1 cc xs P w.heap.size (w.heap.size + 1 + 1) w2 HIA.out (by omega) q1 q8).mono ?_; rintro r w3 ⟨rfl, hb3⟩; obtain ⟨p1, p2, p3, p4, p5, p6, p7, p8⟩ := HC.out w3 (below_up HB2.out hb3); have HB3 := Lib.hid hb3; clear hb3))
  go_ret
  exact ⟨rfl, below_up HB4.out (below_up HB2.out HB3.out)⟩
set_option maxRecDepth 100000 in
set_option maxHeartbeats 4000000 in
theorem stepW_ok1 (P : Int) (A1 A2 A3 A4 A5 A6 : Option Addr) (n1 c1 n2 c2 n3 c3 n4 c4 n5 c5 n6 c6 : Nat) (c d a b e : Int) (xs : List Int) (w : World) (T : Tells c d a b e 1 xs) (x1 : (c != 1) = true) (x2 : (c == 1) = false) (hd : placeB P d = true) (hb : badB P xs = false) (b1 : (b != 0) = false) (e1 : (e != 0) = false) :
    Calls Tryd.prog 43 #[.agg #[.int .i64 P, .slice A1 n1 c1, .slice A2 n2 c2, .slice A3 n3 c3, .slice A4 n4 c4, .slice A5 n5 c5, .slice A6 n6 c6], .agg #[.int .i64 c, .int .i64 d, .int .i64 a, .int .i64 b, .int .i64 e]] w fun r w' => r = .returned (.nilIface) ∧ Below w.heap.size w w' := by
  have HA := Lib.hid T.1
  have HK := Lib.hid T.2
  have HC := Lib.hid (fun w2 => scells P A1 A2 A3 A4 A5 A6 n1 c1 n2 c2 n3 c3 n4 c4 n5 c5 n6 c6 c d a b e w w2)
  have HB4 := Lib.hid ((((Below.refl w.heap.size w).alloc (Nat.le_refl _) (Obj.cells #[.int .i64 P, .slice A1 n1 c1, .slice A2 n2 c2, .slice A3 n3 c3, .slice A4 n4 c4, .slice A5 n5 c5, .slice A6 n6 c6] 26)).alloc (by simp only [World.size_alloc]; omega) (Obj.cells #[.int .i64 c, .int .i64 d, .int .i64 a, .int .i64 b, .int .i64 e] 31)).alloc (by simp only [World.size_alloc]; omega) (Obj.cells #[.func (.func 73) #[] #[.pointer (some ⟨w.heap.size, 0, none⟩)]] 74))
  clear T
  go_enter Tryd.func43, Tryd.ntmps43
  go_wp2_with (first | (go_at_call 36; refine (HA.out _).mono ?_; rintro r w1 ⟨rfl, rfl⟩) | (go_at_call 73; refine (in73 P _ w.heap.size _ (by simp [go_sem])).mono ?_; rintro r w1 ⟨rfl, rfl⟩) | (go_at_call 11; refine (HK.out _).mono ?_; rintro r w2 ⟨AA, cc, rfl, hcc, hIA, hb2⟩; obtain ⟨q1, q2, q3, q4, q5, q6, q7, q8⟩ := HC.out w2 hb2; have HIA := Lib.hid hIA; have HB2 := Lib.hid hb2; clear hIA hb2) | (go_at_call 40; refine (bad_any AA 1 cc xs P w.heap.size (w.heap.size + 1 + 1) w2 HIA.out (by omega) q1 q8).mono ?_; rintro r w3 ⟨rfl, hb3⟩; obtain ⟨p1, p2, p3, p4, p5, p6, p7, p8⟩ := HC.out w3 (below_up HB2.out hb3); have HB3 := Lib.hid hb3; clear hb3))
  go_ret
  exact ⟨rfl, below_up HB4.out (below_up HB2.out HB3.out)⟩
set_option maxRecDepth 100000 in
set_option maxHeartbeats 4000000 in
theorem stepW_arg2e (P : Int) (A1 A2 A3 A4 A5 A6 : Option Addr) (n1 c1 n2 c2 n3 c3 n4 c4 n5 c5 n6 c6 : Nat) (c d a b e : Int) (xs : List Int) (w : World) (T : Tells c d a b e 2 xs) (x1 : (c != 1) = true) (x2 : (c == 1) = false) (hd : placeB P d = true) (hb : badB P xs = false) (e1 : (e != 0) = true) :
    Calls Tryd.prog 43 #[.agg #[.int .i64 P, .slice A1 n1 c1, .slice A2 n2 c2, .slice A3 n3 c3, .slice A4 n4 c4, .slice A5 n5 c5, .slice A6 n6 c6], .agg #[.int .i64 c, .int .i64 d, .int .i64 a, .int .i64 b, .int .i64 e]] w fun r w' => r = .returned (.iface 36 (.int .i64 1)) ∧ Below w.heap.size w w' := by
  have HA := Lib.hid T.1
  have HK := Lib.hid T.2
  have HC := Lib.hid (fun w2 => scells P A1 A2 A3 A4 A5 A6 n1 c1 n2 c2 n3 c3 n4 c4 n5 c5 n6 c6 c d a b e w w2)
  have HB4 := Lib.hid ((((Below.refl w.heap.size w).alloc (Nat.le_refl _) (Obj.cells #[.int .i64 P, .slice A1 n1 c1, .slice A2 n2 c2, .slice A3 n3 c3, .slice A4 n4 c4, .slice A5 n5 c5, .slice A6 n6 c6] 26)).alloc (by simp only [World.size_alloc]; omega) (Obj.cells #[.int .i64 c, .int .i64 d, .int .i64 a, .int .i64 b, .int .i64 e] 31)).alloc (by simp only [World.size_alloc]; omega) (Obj.cells #[.func (.func 73) #[] #[.pointer (some ⟨w.heap.size, 0, none⟩)]] 74))
  clear T
  go_enter Tryd.func43, Tryd.ntmps43
  go_wp2_with (first | (go_at_call 36; refine (HA.out _).mono ?_; rintro r w1 ⟨rfl, rfl⟩) | (go_at_call 73; refine (in73 P _ w.heap.size _ (by simp [go_sem])).mono ?_; rintro r w1 ⟨rfl, rfl⟩) | (go_at_call 11; refine (HK.out _).mono ?_; rintro r w2 ⟨AA, cc, rfl, hcc, hIA, hb2⟩; obtain ⟨q1, q2, q3, q4, q5, q6, q7, q8⟩ := HC.out w2 hb2; have HIA := Lib.hid hIA; have HB2 := Lib.hid hb2; clear hIA hb2) | (go_at_call 40; refine (bad_any AA 2 cc xs P w.heap.size (w.heap.size + 1 + 1) w2 HIA.out (by omega) q1 q8).mono ?_; rintro r w3 ⟨rfl, hb3⟩; obtain ⟨p1, p2, p3, p4, p5, p6, p7, p8⟩ := HC.out w3 (below_up HB2.out hb3); have HB3 := Lib.hid hb3; clear hb3))
  go_ret
  exact ⟨rfl, below_up HB4.out (below_up HB2.out HB3.out)⟩
set_option maxRecDepth 100000 in
set_option maxHeartbeats 4000000 in
theorem stepW_ok2 (P : Int) (A1 A2 A3 A4 A5 A6 : Option Addr) (n1 c1 n2 c2 n3 c3 n4 c4 n5 c5 n6 c6 : Nat) (c d a b e : Int) (xs : List Int) (w : World) (T : Tells c d a b e 2 xs) (x1 : (c != 1) = true) (x2 : (c == 1) = false) (hd : placeB P d = true) (hb : badB P xs = false) (e1 : (e != 0) = false) :
    Calls Tryd.prog 43 #[.agg #[.int .i64 P, .slice A1 n1 c1, .slice A2 n2 c2, .slice A3 n3 c3, .slice A4 n4 c4, .slice A5 n5 c5, .slice A6 n6 c6], .agg #[.int .i64 c, .int .i64 d, .int .i64 a, .int .i64 b, .int .i64 e]] w fun r w' => r = .returned (.nilIface) ∧ Below w.heap.size w w' := by
  have HA := Lib.hid T.1
  have HK := Lib.hid T.2
  have HC := Lib.hid (fun w2 => scells P A1 A2 A3 A4 A5 A6 n1 c1 n2 c2 n3 c3 n4 c4 n5 c5 n6 c6 c d a b e w w2)
  have HB4 := Lib.hid ((((Below.refl w.heap.size w).alloc (Nat.le_refl _) (Obj.cells #[.int .i64 P, .slice A1 n1 c1, .slice A2 n2 c2, .slice A3 n3 c3, .slice A4 n4 c4, .slice A5 n5 c5, .slice A6 n6 c6] 26)).alloc (by simp only [World.size_alloc]; omega) (Obj.cells #[.int .i64 c, .int .i64 d, .int .i64 a, .int .i64 b, .int .i64 e] 31)).alloc (by simp only [World.size_alloc]; omega) (Obj.cells #[.func (.func 73) #[] #[.pointer (some ⟨w.heap.size, 0, none⟩)]] 74))
  clear T
  go_enter Tryd.func43, Tryd.ntmps43
  go_wp2_with (first | (go_at_call 36; refine (HA.out _).mono ?_; rintro r w1 ⟨rfl, rfl⟩) | (go_at_call 73; refine (in73 P _ w.heap.size _ (by simp [go_sem])).mono ?_; rintro r w1 ⟨rfl, rfl⟩) | (go_at_call 11; refine (HK.out _).mono ?_; rintro r w2 ⟨AA, cc, rfl, hcc, hIA, hb2⟩; obtain ⟨q1, q2, q3, q4, q5, q6, q7, q8⟩ := HC.out w2 hb2; have HIA := Lib.hid hIA; have HB2 := Lib.hid hb2; clear hIA hb2) | (go_at_call 40; refine (bad_any AA 2 cc xs P w.heap.size (w.heap.size + 1 + 1) w2 HIA.out (by omega) q1 q8).mono ?_; rintro r w3 ⟨rfl, hb3⟩; obtain ⟨p1, p2, p3, p4, p5, p6, p7, p8⟩ := HC.out w3 (below_up HB2.out hb3); have HB3 := Lib.hid hb3; clear hb3))
  go_ret
  exact ⟨rfl, below_up HB4.out (below_up HB2.out HB3.out)⟩
set_option maxRecDepth 100000 in
set_option maxHeartbeats 4000000 in
theorem stepW_ok3 (P : Int) (A1 A2 A3 A4 A5 A6 : Option Addr) (n1 c1 n2 c2 n3 c3 n4 c4 n5 c5 n6 c6 : Nat) (c d a b e : Int) (xs : List Int) (w : World) (T : Tells c d a b e 3 xs) (x1 : (c != 1) = true) (x2 : (c == 1) = false) (hd : placeB P d = true) (hb : badB P xs = false) :
    Calls Tryd.prog 43 #[.agg #[.int .i64 P, .slice A1 n1 c1, .slice A2 n2 c2, .slice A3 n3 c3, .slice A4 n4 c4, .slice A5 n5 c5, .slice A6 n6 c6], .agg #[.int .i64 c, .int .i64 d, .int .i64 a, .int .i64 b, .int .i64 e]] w fun r w' => r = .returned (.nilIface) ∧ Below w.heap.size w w' := by
  have HA := Lib.hid T.1
  have HK := Lib.hid T.2
  have HC := Lib.hid (fun w2 => scells P A1 A2 A3 A4 A5 A6 n1 c1 n2 c2 n3 c3 n4 c4 n5 c5 n6 c6 c d a b e w w2)
  have HB4 := Lib.hid ((((Below.refl w.heap.size w).alloc (Nat.le_refl _) (Obj.cells #[.int .i64 P, .slice A1 n1 c1, .slice A2 n2 c2, .slice A3 n3 c3, .slice A4 n4 c4, .slice A5 n5 c5, .slice A6 n6 c6] 26)).alloc (by simp only [World.size_alloc]; omega) (Obj.cells #[.int .i64 c, .int .i64 d, .int .i64 a, .int .i64 b, .int .i64 e] 31)).alloc (by simp only [World.size_alloc]; omega) (Obj.cells #[.func (.func 73) #[] #[.pointer (some ⟨w.heap.size, 0, none⟩)]] 74))
  clear T
  go_enter Tryd.func43, Tryd.ntmps43
  go_wp2_with (first | (go_at_call 36; refine (HA.out _).mono ?_; rintro r w1 ⟨rfl, rfl⟩) | (go_at_call 73; refine (in73 P _ w.heap.size _ (by simp [go_sem])).mono ?_; rintro r w1 ⟨rfl, rfl⟩) | (go_at_call 11; refine (HK.out _).mono ?_; rintro r w2 ⟨AA, cc, rfl, hcc, hIA, hb2⟩; obtain ⟨q1, q2, q3, q4, q5, q6, q7, q8⟩ := HC.out w2 hb2; have HIA := Lib.hid hIA; have HB2 := Lib.hid hb2; clear hIA hb2) | (go_at_call 40; refine (bad_any AA 3 cc xs P w.heap.size (w.heap.size + 1 + 1) w2 HIA.out (by omega) q1 q8).mono ?_; rintro r w3 ⟨rfl, hb3⟩; obtain ⟨p1, p2, p3, p4, p5, p6, p7, p8⟩ := HC.out w3 (below_up HB2.out hb3); have HB3 := Lib.hid hb3; clear hb3))
  go_ret
  exact ⟨rfl, below_up HB4.out (below_up HB2.out HB3.out)⟩

theorem bne_no {a b : Int} (h : a = b) : (a != b) = false := by simp [h]
theorem bne_yes {a b : Int} (h : a ≠ b) : (a != b) = true := by simp [h]
theorem beq_yes {a b : Int} (h : a = b) : (a == b) = true := by simp [h]
theorem beq_no {a b : Int} (h : a ≠ b) : (a == b) = false := by simp [h]
theorem step_any (P : Int) (A1 A2 A3 A4 A5 A6 : Option Addr) (n1 c1 n2 c2 n3 c3 n4 c4 n5 c5 n6 c6 : Nat) (s : Stp) (w : World) :
    Calls Tryd.prog 43 #[.agg #[.int .i64 P, .slice A1 n1 c1, .slice A2 n2 c2, .slice A3 n3 c3, .slice A4 n4 c4, .slice A5 n5 c5, .slice A6 n6 c6], .agg #[.int .i64 s.c, .int .i64 s.d, .int .i64 s.a, .int .i64 s.b, .int .i64 s.e]] w fun r w' => r = .returned (bareV (stepV P n5 s)) ∧ Below w.heap.size w w' := by
  have T : Tells s.c s.d s.a s.b s.e (arityV s.c) (asksV s) := ⟨arity_any s.c, asks_any s⟩
  have hk := arity_le s.c
  by_cases h1 : s.c = 1
  · have k0 : arityV s.c = 0 := by rw [h1]; rfl
    have T0 := T
    rw [k0] at T0
    cases hd : placeB P s.d
    · rw [step_dst (.inl h1) hd]
      exact stepW_dst0 P A1 A2 A3 A4 A5 A6 n1 c1 n2 c2 n3 c3 n4 c4 n5 c5 n6 c6 s.c s.d s.a s.b s.e _ w T0 (bne_no h1) (beq_yes h1) hd
    cases hb : badB P (asksV s)
    rotate_left
    · rw [step_bad (.inl h1) hb]
      exact stepW_bad0 P A1 A2 A3 A4 A5 A6 n1 c1 n2 c2 n3 c3 n4 c4 n5 c5 n6 c6 s.c s.d s.a s.b s.e _ w T0 (bne_no h1) (beq_yes h1) hd hb
    by_cases ha : s.a < 0
    · rw [step_num h1 hd hb (.inl ha)]
      exact stepW_numlo P A1 A2 A3 A4 A5 A6 n1 c1 n2 c2 n3 c3 n4 c4 n5 c5 n6 c6 s.c s.d s.a s.b s.e _ w T0 (bne_no h1) (beq_yes h1) hd hb (by simpa using ha) ha
    have ha' : decide (s.a < (0 : Int)) = false := by simpa using ha
    by_cases hc : (n5 : Int) ≤ s.a
    · rw [step_num h1 hd hb (.inr hc)]
      exact stepW_numhi P A1 A2 A3 A4 A5 A6 n1 c1 n2 c2 n3 c3 n4 c4 n5 c5 n6 c6 s.c s.d s.a s.b s.e _ w T0 (bne_no h1) (beq_yes h1) hd hb ha' (by omega) hc
    by_cases hx : s.b = 0
    · by_cases hy : s.e = 0
      · rw [step_ok (.inl h1) hd hb (.inr ⟨by omega, by omega⟩) (by omega)]
        exact stepW_ok0 P A1 A2 A3 A4 A5 A6 n1 c1 n2 c2 n3 c3 n4 c4 n5 c5 n6 c6 s.c s.d s.a s.b s.e _ w T0 (bne_no h1) (beq_yes h1) hd hb ha' (by omega) (by omega) (bne_no hx) (bne_no hy)
      · rw [step_arg (.inl h1) hd hb (.inr ⟨by omega, by omega⟩) (by omega)]
        exact stepW_arg0e P A1 A2 A3 A4 A5 A6 n1 c1 n2 c2 n3 c3 n4 c4 n5 c5 n6 c6 s.c s.d s.a s.b s.e _ w T0 (bne_no h1) (beq_yes h1) hd hb ha' (by omega) (by omega) (bne_no hx) (bne_yes hy)
    · rw [step_arg (.inl h1) hd hb (.inr ⟨by omega, by omega⟩) (by omega)]
      exact stepW_arg0b P A1 A2 A3 A4 A5 A6 n1 c1 n2 c2 n3 c3 n4 c4 n5 c5 n6 c6 s.c s.d s.a s.b s.e _ w T0 (bne_no h1) (beq_yes h1) hd hb ha' (by omega) (by omega) (bne_yes hx)
  rcases (show arityV s.c = 0 ∨ arityV s.c = 1 ∨ arityV s.c = 2 ∨ arityV s.c = 3 by omega) with k | k | k | k
  · rw [step_form h1 k]
    rw [k] at T
    exact stepW_form P A1 A2 A3 A4 A5 A6 n1 c1 n2 c2 n3 c3 n4 c4 n5 c5 n6 c6 s.c s.d s.a s.b s.e _ w T (bne_yes h1) (beq_no h1)
  · have hn : s.c = 1 ∨ arityV s.c ≠ 0 := .inr (by omega)
    rw [k] at T
    cases hd : placeB P s.d
    · rw [step_dst hn hd]
      exact stepW_dst1 P A1 A2 A3 A4 A5 A6 n1 c1 n2 c2 n3 c3 n4 c4 n5 c5 n6 c6 s.c s.d s.a s.b s.e _ w T (bne_yes h1) (beq_no h1) hd
    cases hb : badB P (asksV s)
    rotate_left
    · rw [step_bad hn hb]
      exact stepW_bad1 P A1 A2 A3 A4 A5 A6 n1 c1 n2 c2 n3 c3 n4 c4 n5 c5 n6 c6 s.c s.d s.a s.b s.e _ w T (bne_yes h1) (beq_no h1) hd hb
    by_cases hx : s.b = 0
    · by_cases hy : s.e = 0
      · rw [step_ok hn hd hb (.inl h1) (by omega)]
        exact stepW_ok1 P A1 A2 A3 A4 A5 A6 n1 c1 n2 c2 n3 c3 n4 c4 n5 c5 n6 c6 s.c s.d s.a s.b s.e _ w T (bne_yes h1) (beq_no h1) hd hb (bne_no hx) (bne_no hy)
      · rw [step_arg hn hd hb (.inl h1) (by omega)]
        exact stepW_arg1e P A1 A2 A3 A4 A5 A6 n1 c1 n2 c2 n3 c3 n4 c4 n5 c5 n6 c6 s.c s.d s.a s.b s.e _ w T (bne_yes h1) (beq_no h1) hd hb (bne_no hx) (bne_yes hy)
    · rw [step_arg hn hd hb (.inl h1) (by omega)]
      exact stepW_arg1b P A1 A2 A3 A4 A5 A6 n1 c1 n2 c2 n3 c3 n4 c4 n5 c5 n6 c6 s.c s.d s.a s.b s.e _ w T (bne_yes h1) (beq_no h1) hd hb (bne_yes hx)
  · have hn : s.c = 1 ∨ arityV s.c ≠ 0 := .inr (by omega)
    rw [k] at T
    cases hd : placeB P s.d
    · rw [step_dst hn hd]
      exact stepW_dst2 P A1 A2 A3 A4 A5 A6 n1 c1 n2 c2 n3 c3 n4 c4 n5 c5 n6 c6 s.c s.d s.a s.b s.e _ w T (bne_yes h1) (beq_no h1) hd
    cases hb : badB P (asksV s)
    rotate_left
    · rw [step_bad hn hb]
      exact stepW_bad2 P A1 A2 A3 A4 A5 A6 n1 c1 n2 c2 n3 c3 n4 c4 n5 c5 n6 c6 s.c s.d s.a s.b s.e _ w T (bne_yes h1) (beq_no h1) hd hb
    by_cases hy : s.e = 0
    · rw [step_ok hn hd hb (.inl h1) (by omega)]
      exact stepW_ok2 P A1 A2 A3 A4 A5 A6 n1 c1 n2 c2 n3 c3 n4 c4 n5 c5 n6 c6 s.c s.d s.a s.b s.e _ w T (bne_yes h1) (beq_no h1) hd hb (bne_no hy)
    · rw [step_arg hn hd hb (.inl h1) (by omega)]
      exact stepW_arg2e P A1 A2 A3 A4 A5 A6 n1 c1 n2 c2 n3 c3 n4 c4 n5 c5 n6 c6 s.c s.d s.a s.b s.e _ w T (bne_yes h1) (beq_no h1) hd hb (bne_yes hy)
  · have hn : s.c = 1 ∨ arityV s.c ≠ 0 := .inr (by omega)
    rw [k] at T
    cases hd : placeB P s.d
    · rw [step_dst hn hd]
      exact stepW_dst3 P A1 A2 A3 A4 A5 A6 n1 c1 n2 c2 n3 c3 n4 c4 n5 c5 n6 c6 s.c s.d s.a s.b s.e _ w T (bne_yes h1) (beq_no h1) hd
    cases hb : badB P (asksV s)
    rotate_left
    · rw [step_bad hn hb]
      exact stepW_bad3 P A1 A2 A3 A4 A5 A6 n1 c1 n2 c2 n3 c3 n4 c4 n5 c5 n6 c6 s.c s.d s.a s.b s.e _ w T (bne_yes h1) (beq_no h1) hd hb
    rw [step_ok hn hd hb (.inl h1) (by omega)]
    exact stepW_ok3 P A1 A2 A3 A4 A5 A6 n1 c1 n2 c2 n3 c3 n4 c4 n5 c5 n6 c6 s.c s.d s.a s.b s.e _ w T (bne_yes h1) (beq_no h1) hd hb
end Go.Proofs.YtgglbjniclkkpaaDoor

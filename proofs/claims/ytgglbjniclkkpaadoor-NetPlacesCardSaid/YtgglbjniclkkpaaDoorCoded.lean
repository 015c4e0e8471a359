/-
  The keep's held and coded; two machines side by side.
-/
import Derived.Test.YtgglbjniclkkpaaDoorTick
import Derived.Test.YtgglbjniclkkpaaDoorJudges
import Derived.Test.YtgglbjniclkkpaaDoorSameNums
namespace Go.Proofs.YtgglbjniclkkpaaDoor
open Go.RowKit
set_option linter.unusedVariables false

set_option maxRecDepth 100000 in
set_option maxHeartbeats 2000000 in
theorem heldK_any (P : Int) (A1 A2 A3 A4 A5 A6 : Option Addr) (n1 c1 n2 c2 n3 c3 n4 c4 n5 c5 n6 c6 : Nat) (w : World) :
    Calls Tryd.prog 21 #[.agg #[.int .i64 P, .slice A1 n1 c1, .slice A2 n2 c2, .slice A3 n3 c3, .slice A4 n4 c4, .slice A5 n5 c5, .slice A6 n6 c6]] w fun r w' => r = .returned (.bool (heldB P n1 n2 n3 n4 n5 n6)) ∧ Below w.heap.size w w' := by
  go_enter Tryd.func21, Tryd.ntmps21
  go_wp2
  all_goals
    go_ret
    refine ⟨ret_bool ?_, (Below.refl _ _).alloc (Nat.le_refl _) _⟩
    unfold heldB
    apply Bool.eq_iff_iff.2
    simp only [decide_eq_true_eq, Bool.false_eq_true, false_iff]
    omega
theorem MSt.rebase {W W2 wr : World} {m gk : Nat} {NC : List Value} {AV : Option Addr} {p cV : Nat} {V : List Int} {K : List Bool} (h : MSt W2 wr m gk NC AV p cV V K) (hb : Below W.heap.size W W2) : MSt W wr m gk NC AV p cV V K :=
  ⟨hb.trans (h.below.mono hb.size), Nat.le_trans hb.size h.lo, Nat.le_trans hb.size h.lk, h.box, own_base h.vs hb.size, h.ks, h.kl⟩
/-- A machine while another one ticks. -/
theorem MSt.beside {W w w' : World} {k gk : Nat} {NC : List Value} {AK : Option Addr} {p cK : Nat} {V : List Int} {K : List Bool} (h : MSt W w k gk NC AK p cK V K) {AM : Option Addr} {n cM : Nat} {ys : List Value} (hv : w.ownsRow W.heap.size 2 1 (.slice AM n cM) n ys)
    (hne : (Value.slice AK p cK).ownBlock = none ∨ (Value.slice AK p cK).ownBlock ≠ (Value.slice AM n cM).ownBlock) (hg : w.grownBy w' (Value.slice AM n cM).ownBlock) : MSt W w' k gk NC AK p cK V K :=
  h.other hg (fun e => by obtain ⟨c, hc⟩ := own_kind' hv k e.symm; rw [h.box] at hc; injection hc with hc; injection hc with _ h2 _; exact absurd h2 (by decide))
    (fun e => by obtain ⟨c, hc⟩ := own_kind' hv gk e.symm; rw [h.ks] at hc; injection hc with hc; injection hc with _ h2 _; exact absurd h2 (by decide)) hne (fun x e => (own_lt' hv x e).1)
theorem row_kept {w w' : World} {B n : Nat} {e : TypeId} {v : Value} {xs : List Value} {r : Option Nat} (h : w.ownsRow B e 1 v n xs) (hg : w.grownBy w' r) (hr : ∀ x, r = some x → x < B) : w'.ownsRow B e 1 v n xs := by
  refine h.kept hg ?_
  rcases hv : v.ownBlock with _ | y
  · exact .inl rfl
  · right
    intro e
    have h1 := (own_lt' h y hv).1
    have h2 := hr y e.symm
    omega
theorem ints_1 {w : World} {g : Nat} {x : Int} (h : w.cell? ⟨g, 0, none⟩ = some (.int .i64 x)) : IntsAt w (some ⟨g, 0, none⟩) 1 [x] :=
  ⟨rfl, fun _ => ⟨g, 0, rfl, fun j hj => by match j, hj with | 0, _ => exact h⟩⟩
theorem ints_2 {w : World} {g : Nat} {x y : Int} (h : w.cell? ⟨g, 0, none⟩ = some (.int .i64 x)) (h1 : w.cell? ⟨g, 1, none⟩ = some (.int .i64 y)) : IntsAt w (some ⟨g, 0, none⟩) 2 [x, y] :=
  ⟨rfl, fun _ => ⟨g, 0, rfl, fun j hj => by match j, hj with | 0, _ => exact h | 1, _ => exact h1⟩⟩
def W6 (w : World) : World := ((((((w.alloc (Obj.cells #[Value.int IntKind.i64 5, Value.int IntKind.i64 0] 2)).alloc (Obj.cells #[Value.int IntKind.i64 0] 3)).alloc (Obj.cells #[Value.int IntKind.i64 0] 3)).alloc (Obj.cells #[Value.int IntKind.i64 2] 2)).alloc
  (Obj.cells #[Value.int IntKind.i64 1, Value.int IntKind.i64 1, Value.int IntKind.i64 0, Value.int IntKind.i64 0, Value.int IntKind.i64 0, Value.int IntKind.i64 6, Value.int IntKind.i64 0, Value.int IntKind.i64 0, Value.int IntKind.i64 1, Value.int IntKind.i64 0] 31)).alloc
  (Obj.cells #[Value.int IntKind.i64 2, Value.slice (some ⟨w.heap.size, 0, none⟩) 2 2, Value.slice none 0 0, Value.slice (some ⟨w.heap.size + 1, 0, none⟩) 1 1, Value.slice (some ⟨w.heap.size + 1 + 1, 0, none⟩) 1 1, Value.slice (some ⟨w.heap.size + 1 + 1 + 1, 0, none⟩) 1 1, Value.slice (some ⟨w.heap.size + 1 + 1 + 1 + 1, 0, none⟩) 2 2] 26))
def N0 : NetP := ⟨2, [5, 0], [], [0], [0], [2], [⟨1, 1, 0, 0, 0⟩, ⟨6, 0, 0, 1, 0⟩]⟩
theorem w6_below (w : World) : Below w.heap.size w (W6 w) :=
  ((((((Below.refl w.heap.size w).alloc (Nat.le_refl _) _).alloc (by simp) _).alloc (by simp; omega) _).alloc (by simp; omega) _).alloc (by simp; omega) _).alloc (by simp; omega) _
theorem w6_net (w : World) : NetAt (W6 w) 2 (some ⟨w.heap.size, 0, none⟩) none (some ⟨w.heap.size + 1, 0, none⟩) (some ⟨w.heap.size + 1 + 1, 0, none⟩) (some ⟨w.heap.size + 1 + 1 + 1, 0, none⟩) (some ⟨w.heap.size + 1 + 1 + 1 + 1, 0, none⟩) 2 2 0 0 1 1 1 1 1 1 2 2 N0 := by
  refine ⟨rfl, ints_2 ?_ ?_, IntsAt.nil _ _, ints_1 ?_, ints_1 ?_, ints_1 ?_, ⟨rfl, fun _ => ⟨_, 0, rfl, fun j hj => ?_⟩⟩, by decide, by decide, by decide, by decide, by decide, by decide, by decide, by decide⟩
  · simp [W6, go_sem]
  · simp [W6, go_sem]
  · simp [W6, go_sem]
  · simp [W6, go_sem]
  · simp [W6, go_sem]
  · match j, hj with
    | 0, _ => exact ⟨_, rfl, by simp [W6, go_sem], by simp [W6, go_sem], by simp [W6, go_sem], by simp [W6, go_sem], by simp [W6, go_sem]⟩
    | 1, _ => exact ⟨_, rfl, by simp [W6, go_sem], by simp [W6, go_sem], by simp [W6, go_sem], by simp [W6, go_sem], by simp [W6, go_sem]⟩
theorem judge0 : judgeV N0 = (0, -1) := by decide
theorem tick1 : tickV N0 (kpV N0.keeps (List.replicate 2 false)) [] N0.first = ([7], [7, 0]) := by kernel_rfl
theorem tick2 : tickV N0 (kpV N0.keeps (List.replicate 2 false)) [] [7, 0] = ([9], [9, 0]) := by kernel_rfl
set_option maxRecDepth 100000 in
set_option maxHeartbeats 4000000 in
theorem coded_any (w : World) (hg : HandleAt w) : Calls Tryd.prog 22 #[] w fun r w' => r = .returned (.bool true) ∧ Below w.heap.size w w' := by
  have HG := Lib.hid hg
  clear hg
  go_enter Tryd.func22, Tryd.ntmps22
  go_wp2_with fail
  refine (new_ok 2 _ _ _ _ _ _ 2 2 0 0 1 1 1 1 1 1 2 2 N0 (W6 w) (w6_net w) (HG.out.up (w6_below w)) judge0).mono ?_
  rintro r w1 ⟨m, gk, AV, cV, rfl, hS⟩
  have S := Lib.hid hS
  clear hS
  go_wp2_with fail
  refine (tick_any (W6 w) _ _ _ _ _ _ 2 2 0 0 1 1 1 1 1 1 2 2 N0 (w6_net w) (good_net judge0).2 m gk AV cV N0.first _ none 0 0 [] (IntsAt.nil _ _) (by decide) w1 S.out).mono ?_
  rw [tick1]
  rintro r w2 ⟨B1, k1, d1, rfl, ho1, hS2, hg1⟩
  have S2 := Lib.hid hS2
  have O1 := Lib.hid ho1
  have HS : Hid (∀ x, (Value.slice AV 2 cV).ownBlock = some x → x < w1.heap.size) := Lib.hid fun x e => (own_lt' S.out.vs x e).2
  clear hS2 ho1 hg1
  go_wp2_with fail
  refine (tick_any (W6 w) _ _ _ _ _ _ 2 2 0 0 1 1 1 1 1 1 2 2 N0 (w6_net w) (good_net judge0).2 m gk AV cV [7, 0] _ none 0 0 [] (IntsAt.nil _ _) (by decide) w2 S2.out).mono ?_
  rw [tick2]
  rintro r w3 ⟨B2, k2, d2, rfl, ho2, hS3, hg2⟩
  obtain ⟨e1, j1, _⟩ := own_ints (row_kept O1.out hg2 HS.out)
  obtain ⟨e2, j2, _⟩ := own_ints ho2
  subst e1 e2
  obtain ⟨b1, o1, rfl, hc1⟩ := j1.2 (by decide)
  obtain ⟨b2, o2, rfl, hc2⟩ := j2.2 (by decide)
  have hx1 : w3.cell? ⟨b1, o1, none⟩ = some (.int .i64 7) := hc1 0 (by decide)
  have hx2 : w3.cell? ⟨b2, o2, none⟩ = some (.int .i64 9) := hc2 0 (by decide)
  have BB := Lib.hid ((w6_below w).trans (hS3.below.mono (w6_below w).size))
  clear hc1 hc2 j1 j2 ho2 hS3 hg2
  go_wp2_with fail
  go_ret
  exact ⟨rfl, BB.out⟩
end Go.Proofs.YtgglbjniclkkpaaDoor

/-
  Ticks among the arguments; the law's few.
-/
import Derived.Test.YtgglbjniclkkpaaDoorOpenOk
import Derived.Test.YtgglbjniclkkpaaDoorCheck
import Derived.Outline
namespace Go.Proofs.YtgglbjniclkkpaaDoor
open Go.Joins Go.ChangeShapes Go.WideShapes Go.RowKit Go.Deep
set_option linter.unusedVariables false

/-- The slice at B, of n lists, holds R. -/
def RowsAt (w : World) (B : Option Addr) (n : Nat) (R : List (List Int)) : Prop :=
  R.length = n ∧ (0 < n → ∃ b o, B = some ⟨b, o, none⟩ ∧ ∀ j, j < n → ∃ A l c xs, R[j]? = some xs ∧ w.cell? ⟨b, o + j, none⟩ = some (.slice A l c) ∧ IntsAt w A l xs ∧ ∀ x ∈ xs, okN x)
theorem RowsAt.up {w W : World} {B : Option Addr} {n : Nat} {R : List (List Int)} (h : RowsAt w B n R) (hb : Below w.heap.size w W) : RowsAt W B n R :=
  ⟨h.1, fun hn => by
    obtain ⟨b, o, e, hc⟩ := h.2 hn
    refine ⟨b, o, e, fun j hj => ?_⟩
    obtain ⟨A, l, c, xs, h1, h2, h3, h4⟩ := hc j hj
    exact ⟨A, l, c, xs, h1, cell_up hb h2, h3.up hb, h4⟩⟩
section
variable {H : Type} {enc : TypeId × Value → H} {w : World} {base : Nat} {spare : Nat → Bool} {held : Bool}
set_option maxRecDepth 100000 in
theorem rows_open {fuel : Nat} {v : Value} {x : DataW H × List MemPlace} (h : DataW.trod enc Tryd.prog w base spare held fuel 58 [v] = some x) : ∃ B n c R, v = .slice B n c ∧ RowsAt w B n R := by
  rcases open_slice Tryd.underlying58 h with ⟨h0, _⟩ | ⟨a, len, cap, m, n, D, Pl, hv, _, hl, _, hm, _, hi⟩
  · cases h0; exact ⟨none, 0, 0, [], rfl, rfl, fun h => absurd h (by omega)⟩
  · cases hv
    have hlm : len ≤ m := by rw [hm]; split <;> omega
    have each : ∀ i, ∃ xs : List Int, i < len → ∃ A l c, w.cell? (a.add i) = some (.slice A l c) ∧ IntsAt w A l xs ∧ ∀ x ∈ xs, okN x := by
      intro i
      by_cases him : i < len
      · obtain ⟨cs', hc, ht'⟩ := hi i (by omega)
        rw [show Tryd.prog.cellsOf 22 = 1 by kernel_rfl, Nat.mul_one] at hc
        obtain ⟨_, hcl, hat⟩ := World.cells?_some hc
        match cs', hcl with
        | [c0], _ =>
          obtain ⟨A, l, c, xs, rfl, _, hx, ho⟩ := ints_open_ok Tryd.underlying22 Tryd.underlying2 (by kernel_rfl) ht'
          have h0 := hat 0 (by omega)
          rw [Go.Deep.add_add] at h0
          exact ⟨xs, fun _ => ⟨A, l, c, by simpa using h0, hx, ho⟩⟩
      · exact ⟨[], fun h => absurd h him⟩
    obtain ⟨f, hf⟩ := Classical.axiomOfChoice each
    refine ⟨some a, len, cap, (List.range len).map f, rfl, by simp, fun hn => ?_⟩
    obtain ⟨b, o, sp⟩ := a
    have hs : sp = none := by obtain ⟨A, l, c, h0, _⟩ := hf 0 hn; exact World.cell?_spot h0
    subst hs
    refine ⟨b, o, rfl, fun j hj => ?_⟩
    obtain ⟨A, l, c, h1, h2, h3⟩ := hf j hj
    rw [add_none] at h1
    exact ⟨A, l, c, f j, by simp [hj], h1, h2, h3⟩
end
/-- Are ticks few enough to be held? -/
def fewB (R : List (List Int)) : Bool := decide (R.length ≤ 40) && R.all fun xs => decide (xs.length ≤ 30)
set_option maxRecDepth 100000 in
set_option maxHeartbeats 2000000 in
theorem few_any (B : Option Addr) (n c : Nat) (R : List (List Int)) (w : World) (h : RowsAt w B n R) : Calls Tryd.prog 32 #[.slice B n c] w fun r w' => r = .returned (.bool (fewB R)) ∧ Below w.heap.size w w' := by
  have hl := h.1
  by_cases h40 : n ≤ 40
  · have hd : decide ((40 : Int) < (n : Int)) = false := by simp; omega
    have h40' : (n : Int) ≤ 40 := by omega
    have H := Lib.hid h
    clear h
    go_enter Tryd.func32, Tryd.ntmps32
    go_wp2_with fail
    go_loopw [3] (fun i wr => ∃ k : Nat, k ≤ n ∧ i = .int .i64 k ∧ Hid ((R.drop k).all (fun xs => decide (xs.length ≤ 30)) = R.all fun xs => decide (xs.length ≤ 30)) ∧ Below w.heap.size w wr) (fun i _ => n - (intOf i).toNat)
    case atStart => exact ⟨0, Nat.zero_le _, rfl, Lib.hid (by simp), Below.refl _ _⟩
    case round =>
      obtain ⟨k, hk, rfl, F, hb⟩ := hrel
      by_cases hlt : k < n
      · obtain ⟨b, o, rfl, hc⟩ := (H.out.up hb).2 (by omega)
        obtain ⟨A, l, c', xs, h1, h2, h3, _⟩ := hc k hlt
        have hll := h3.1
        have hdr : R.drop k = xs :: R.drop (k + 1) := by
          obtain ⟨hl', e⟩ := List.getElem?_eq_some_iff.1 h1
          rw [List.drop_eq_getElem_cons hl', e]
        have HB := Lib.hid hb
        clear hc h1 h3 hb
        by_cases h30 : l ≤ 30
        · have h30' : (l : Int) ≤ 30 := by omega
          have F2 : Hid ((R.drop (k + 1)).all (fun xs => decide (xs.length ≤ 30)) = R.all fun xs => decide (xs.length ≤ 30)) := Lib.hid (by
            have h := F.out
            rw [hdr, List.all_cons, hll, decide_eq_true h30, Bool.true_and] at h
            exact h)
          clear F hdr hll
          go_wp2_with fail
          go_roundw
          case rel => exact ⟨k + 1, by omega, by go_num, F2, HB.out⟩
          case measure => simp [intOf]; omega
        · have h30' : (30 : Int) < (l : Int) := by omega
          have F2 : Hid (fewB R = false) := Lib.hid (by
            unfold fewB
            rw [← F.out, hdr, List.all_cons, hll, decide_eq_false h30, Bool.false_and, Bool.and_false])
          clear F hdr hll
          go_wp2_with fail
          go_ret
          exact ⟨by rw [F2.out]; rfl, HB.out⟩
      · have F2 : Hid (fewB R = true) := Lib.hid (by
          unfold fewB
          rw [← F.out, List.drop_of_length_le (by omega), hl, decide_eq_true h40]
          rfl)
        clear F
        go_wp2_with fail
        go_ret
        exact ⟨by rw [F2.out]; rfl, hb⟩
  · have hd : (40 : Int) < (n : Int) := by omega
    have F2 : Hid (fewB R = false) := Lib.hid (by unfold fewB; rw [hl, decide_eq_false h40, Bool.false_and])
    clear h
    go_enter Tryd.func32, Tryd.ntmps32
    go_wp2_with fail
    go_ret
    exact ⟨by rw [F2.out]; rfl, Below.refl _ _⟩
theorem fewB_at {R : List (List Int)} {j : Nat} {xs : List Int} (h : fewB R = true) (hj : R[j]? = some xs) : xs.length ≤ 30 := by
  unfold fewB at h
  rw [Bool.and_eq_true] at h
  have := List.all_eq_true.1 h.2 xs (List.mem_of_getElem? hj)
  exact of_decide_eq_true this
end Go.Proofs.YtgglbjniclkkpaaDoor

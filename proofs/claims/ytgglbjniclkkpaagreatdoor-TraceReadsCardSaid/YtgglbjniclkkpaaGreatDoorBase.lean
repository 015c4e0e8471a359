/-
  Numbers, lists of numbers, and ticks among the arguments.
-/
import Derived.Test.YtgglbjniclkkpaaGreatDoorProg
import Derived.Test.YtgglbjniclkkpaaGreatDoorMem
import Derived.WalkKit
import Derived.WalkLawsBesides
import Derived.WalkSpells
import Derived.Deep.QuietTactic
import Derived.BigQuiet
import Derived.Lib.SmallJoins
import Derived.Deep.Slices
import Derived.Deep.Fields
import Derived.ChangeSame
import Derived.ChangeSlices
import Derived.Outline
namespace Go.Proofs.YtgglbjniclkkpaaGreatDoor
open Go.Joins Go.ChangeShapes Go.WideShapes Go.RowKit Go.Deep
set_option linter.unusedVariables false

def okN (n : Int) : Prop := -9223372036854775808 ≤ n ∧ n ≤ 9223372036854775807
theorem add_none (b o j : Nat) : (⟨b, o, none⟩ : Addr).add j = ⟨b, o + j, none⟩ := by
  unfold Addr.add
  by_cases h : j = 0 <;> simp [h]
theorem okN_wf {n : Int} (h : (Lit.int .i64 n).wf = true) : okN n := by
  unfold okN
  simp [Lit.wf, IntKind.min, IntKind.max, IntKind.signed, IntKind.bits] at h
  omega
section
variable {H : Type} {enc : TypeId × Value → H} {w : World} {base : Nat} {spare : Nat → Bool} {held : Bool}
/-- A slice of ints among the arguments: what lies in it. -/
theorem ints_open_ok {t e : TypeId} {fuel : Nat} {v : Value} {x : DataW H × List MemPlace} (ht : Tryz.prog.underlying t = some (.slice e)) (he : Tryz.prog.underlying e = some (.int .i64)) (hc : Tryz.prog.cellsOf e = 1)
    (h : DataW.trod enc Tryz.prog w base spare held fuel t [v] = some x) : ∃ A n c xs, v = .slice A n c ∧ n ≤ c ∧ IntsAt w A n xs ∧ ∀ x ∈ xs, okN x := by
  rcases open_ints ht he hc h with ⟨h0, _⟩ | ⟨a, len, cap, zs, hv, _, hl, _, hz, _, hcell, hwf⟩
  · cases h0; exact ⟨none, 0, 0, [], rfl, Nat.le_refl _, IntsAt.nil _ _, fun x hx => by cases hx⟩
  · cases hv
    have hlz : len ≤ zs.length := by rw [hz]; split <;> omega
    refine ⟨some a, len, cap, zs.take len, rfl, hl, ⟨by rw [List.length_take]; omega, fun hn => ?_⟩, fun x hx => okN_wf (hwf x (List.mem_of_mem_take hx))⟩
    obtain ⟨b, o, sp⟩ := a
    have hs : sp = none := World.cell?_spot (hcell 0 (by omega))
    subst hs
    refine ⟨b, o, rfl, fun j hj => ?_⟩
    have h1 := hcell j (by omega)
    rw [add_none] at h1
    rw [h1, List.getD_eq_getElem?_getD, List.getD_eq_getElem?_getD, List.getElem?_take_of_lt hj]
end
/-! ### two lists of numbers -/
/-- Are they the same? -/
def sameB : List Int → List Int → Bool
  | [], [] => true
  | x :: r, y :: s => if x = y then sameB r s else false
  | _, _ => false
theorem sameB_eq : ∀ xs ys : List Int, sameB xs ys = true ↔ xs = ys
  | [], [] => by simp [sameB]
  | [], _ :: _ => by simp [sameB]
  | _ :: _, [] => by simp [sameB]
  | x :: r, y :: s => by
    unfold sameB
    by_cases h : x = y
    · rw [if_pos h, sameB_eq r s, h]; simp
    · rw [if_neg h]; simp [h]
theorem sameB_refl (xs : List Int) : sameB xs xs = true := (sameB_eq xs xs).2 rfl
theorem sameB_len {xs ys : List Int} (h : xs.length ≠ ys.length) : sameB xs ys = false := by
  rw [Bool.eq_false_iff]
  intro e
  exact h (by rw [(sameB_eq _ _).1 e])

set_option maxHeartbeats 1000000 in
theorem sameNumsL_any (A B : Option Addr) (n c m d : Nat) (xs ys : List Int) (w : World) (hx : IntsAt w A n xs) (hy : IntsAt w B m ys) (hn : n ≤ 65536) :
    Calls Tryz.prog 10 #[.slice A n c, .slice B m d] w fun e w' => e = .returned (.bool (sameB xs ys)) ∧ Below w.heap.size w w' := by
  by_cases hnm : n = m
  · subst hnm
    rcases Nat.eq_zero_or_pos n with h0 | h0
    · subst h0
      obtain rfl := hx.zero
      obtain rfl := hy.zero
      clear hx hy
      go_enter Tryz.func10, Tryz.ntmps10
      go_wp2
      go_loop [5] (fun i => i = .int .i64 (0 : Nat)) (fun _ => 0)
      case atStart => rfl
      case round =>
        subst hrel
        go_wp2
        go_ret
        exact ⟨rfl, Below.refl _ _⟩
    obtain ⟨b, o, rfl, hc⟩ := hx.2 h0
    obtain ⟨b', o', rfl, hc'⟩ := hy.2 h0
    have H := Lib.hid hx
    have HC := Lib.hid hc
    have H' := Lib.hid hy
    have HC' := Lib.hid hc'
    clear hx hc hy hc'
    go_enter Tryz.func10, Tryz.ntmps10
    go_wp2
    go_loopw [5] (fun i wr => ∃ k : Nat, k ≤ n ∧ i = .int .i64 k ∧ Hid (sameB (xs.drop k) (ys.drop k) = sameB xs ys) ∧ Below w.heap.size w wr) (fun i _ => n - (intOf i).toNat)
    case atStart => exact ⟨0, Nat.zero_le _, rfl, by show _ = _; simp, Below.refl _ _⟩
    case round =>
      obtain ⟨k, hk, rfl, hf, hb⟩ := hrel
      by_cases hlt : k < n
      · obtain ⟨x, hcell, hd⟩ : ∃ x, wr.cell? ⟨b, o + k, none⟩ = some (.int .i64 x) ∧ Hid (xs.drop k = x :: xs.drop (k + 1)) := ⟨_, cell_up hb (HC.out k hlt), H.out.drop_cons hlt⟩
        obtain ⟨y, hcell', hd'⟩ : ∃ y, wr.cell? ⟨b', o' + k, none⟩ = some (.int .i64 y) ∧ Hid (ys.drop k = y :: ys.drop (k + 1)) := ⟨_, cell_up hb (HC'.out k hlt), H'.out.drop_cons hlt⟩
        have i0 : (0 : Int) ≤ (k : Int) := by omega
        have i1 : (k : Int) < (n : Int) := by omega
        by_cases ht : x = y
        · have ht' := Lib.hid ht
          have hne : (x != y) = false := by simp [ht]
          clear ht
          go_wp2
          go_quiet (fail)
          go_wp2
          go_roundw
          case rel => exact ⟨k + 1, by omega, by go_num, (by show _ = _; rw [← hf.out, hd.out, hd'.out, sameB, if_pos ht'.out]), hb.trans ⟨rfl, rfl, rfl, Nat.le_refl _, fun _ _ => rfl⟩⟩
          case measure => simp [intOf]; omega
        · have ht' := Lib.hid ht
          have hne : (x != y) = true := by simp [ht]
          clear ht
          go_wp2
          go_quiet (fail)
          go_wp2
          go_ret
          exact ⟨by rw [← hf.out, hd.out, hd'.out, sameB, if_neg ht'.out]; rfl, hb.trans ⟨rfl, rfl, rfl, Nat.le_refl _, fun _ _ => rfl⟩⟩
      · have hd := Lib.hid (H.out.drop_end (k := k) (by omega))
        have hd' := Lib.hid (H'.out.drop_end (k := k) (by omega))
        go_wp2
        go_ret
        exact ⟨by rw [← hf.out, hd.out, hd'.out]; rfl, hb⟩
  · have hl : sameB xs ys = false := sameB_len (by rw [hx.1, hy.1]; exact hnm)
    rw [hl]
    have hne : ((n : Int) != (m : Int)) = true := by simp; omega
    clear hl hx hy hnm
    go_enter Tryz.func10, Tryz.ntmps10
    go_wp2
    go_ret
    exact ⟨rfl, Below.refl _ _⟩
/-- The slice at B, of n lists, holds R. -/
def RowsAt (w : World) (B : Option Addr) (n : Nat) (R : List (List Int)) : Prop :=
  R.length = n ∧ (0 < n → ∃ b o, B = some ⟨b, o, none⟩ ∧ ∀ j, j < n → ∃ A l c xs, R[j]? = some xs ∧ w.cell? ⟨b, o + j, none⟩ = some (.slice A l c) ∧ IntsAt w A l xs ∧ ∀ x ∈ xs, okN x)
theorem RowsAt.up {w W : World} {B : Option Addr} {n : Nat} {R : List (List Int)} (h : RowsAt w B n R) (hb : Below w.heap.size w W) : RowsAt W B n R :=
  ⟨h.1, fun hn => by
    obtain ⟨b, o, e, hc⟩ := h.2 hn
    refine ⟨b, o, e, fun j hj => ?_⟩
    obtain ⟨A, l, c, xs, h1, h2, h3, h4⟩ := hc j hj
    exact ⟨A, l, c, xs, h1, cell_up hb h2, h3.up hb, h4⟩⟩
section
variable {H : Type} {enc : TypeId × Value → H} {w : World} {base : Nat} {spare : Nat → Bool} {held : Bool}
set_option maxRecDepth 100000 in
theorem rows_open {fuel : Nat} {v : Value} {x : DataW H × List MemPlace} (h : DataW.trod enc Tryz.prog w base spare held fuel 22 [v] = some x) : ∃ B n c R, v = .slice B n c ∧ RowsAt w B n R := by
  rcases open_slice Tryz.underlying22 h with ⟨h0, _⟩ | ⟨a, len, cap, m, n, D, Pl, hv, _, hl, _, hm, _, hi⟩
  · cases h0; exact ⟨none, 0, 0, [], rfl, rfl, fun h => absurd h (by omega)⟩
  · cases hv
    have hlm : len ≤ m := by rw [hm]; split <;> omega
    have each : ∀ i, ∃ xs : List Int, i < len → ∃ A l c, w.cell? (a.add i) = some (.slice A l c) ∧ IntsAt w A l xs ∧ ∀ x ∈ xs, okN x := by
      intro i
      by_cases him : i < len
      · obtain ⟨cs', hc, ht'⟩ := hi i (by omega)
        rw [show Tryz.prog.cellsOf 36 = 1 by kernel_rfl, Nat.mul_one] at hc
        obtain ⟨_, hcl, hat⟩ := World.cells?_some hc
        match cs', hcl with
        | [c0], _ =>
          obtain ⟨A, l, c, xs, rfl, _, hx, ho⟩ := ints_open_ok Tryz.underlying36 Tryz.underlying2 (by kernel_rfl) ht'
          have h0 := hat 0 (by omega)
          rw [Go.Deep.add_add] at h0
          exact ⟨xs, fun _ => ⟨A, l, c, by simpa using h0, hx, ho⟩⟩
      · exact ⟨[], fun h => absurd h him⟩
    obtain ⟨f, hf⟩ := Classical.axiomOfChoice each
    refine ⟨some a, len, cap, (List.range len).map f, rfl, by simp, fun hn => ?_⟩
    obtain ⟨b, o, sp⟩ := a
    have hs : sp = none := by obtain ⟨A, l, c, h0, _⟩ := hf 0 hn; exact World.cell?_spot h0
    subst hs
    refine ⟨b, o, rfl, fun j hj => ?_⟩
    obtain ⟨A, l, c, h1, h2, h3⟩ := hf j hj
    rw [add_none] at h1
    exact ⟨A, l, c, f j, by simp [hj], h1, h2, h3⟩
end
/-- Are ticks few enough to be held? -/
def fewB (R : List (List Int)) : Bool := decide (R.length ≤ 40) && R.all fun xs => decide (xs.length ≤ 30)
set_option maxRecDepth 100000 in
set_option maxHeartbeats 2000000 in
theorem few_any (B : Option Addr) (n c : Nat) (R : List (List Int)) (w : World) (h : RowsAt w B n R) : Calls Tryz.prog 4 #[.slice B n c] w fun r w' => r = .returned (.bool (fewB R)) ∧ Below w.heap.size w w' := by
  have hl := h.1
  by_cases h40 : n ≤ 40
  · have hd : decide ((40 : Int) < (n : Int)) = false := by simp; omega
    have h40' : (n : Int) ≤ 40 := by omega
    have H := Lib.hid h
    clear h
    go_enter Tryz.func4, Tryz.ntmps4
    go_wp2_with fail
    go_loopw [3] (fun i wr => ∃ k : Nat, k ≤ n ∧ i = .int .i64 k ∧ Hid ((R.drop k).all (fun xs => decide (xs.length ≤ 30)) = R.all fun xs => decide (xs.length ≤ 30)) ∧ Below w.heap.size w wr) (fun i _ => n - (intOf i).toNat)
    case atStart => exact ⟨0, Nat.zero_le _, rfl, Lib.hid (by simp), Below.refl _ _⟩
    case round =>
      obtain ⟨k, hk, rfl, F, hb⟩ := hrel
      by_cases hlt : k < n
      · obtain ⟨b, o, rfl, hc⟩ := (H.out.up hb).2 (by omega)
        obtain ⟨A, l, c', xs, h1, h2, h3, _⟩ := hc k hlt
        have hll := h3.1
        have hdr : R.drop k = xs :: R.drop (k + 1) := by
          obtain ⟨hl', e⟩ := List.getElem?_eq_some_iff.1 h1
          rw [List.drop_eq_getElem_cons hl', e]
        have HB := Lib.hid hb
        clear hc h1 h3 hb
        by_cases h30 : l ≤ 30
        · have h30' : (l : Int) ≤ 30 := by omega
          have F2 : Hid ((R.drop (k + 1)).all (fun xs => decide (xs.length ≤ 30)) = R.all fun xs => decide (xs.length ≤ 30)) := Lib.hid (by
            have h := F.out
            rw [hdr, List.all_cons, hll, decide_eq_true h30, Bool.true_and] at h
            exact h)
          clear F hdr hll
          go_wp2_with fail
          go_roundw
          case rel => exact ⟨k + 1, by omega, by go_num, F2, HB.out⟩
          case measure => simp [intOf]; omega
        · have h30' : (30 : Int) < (l : Int) := by omega
          have F2 : Hid (fewB R = false) := Lib.hid (by
            unfold fewB
            rw [← F.out, hdr, List.all_cons, hll, decide_eq_false h30, Bool.false_and, Bool.and_false])
          clear F hdr hll
          go_wp2_with fail
          go_ret
          exact ⟨by rw [F2.out]; rfl, HB.out⟩
      · have F2 : Hid (fewB R = true) := Lib.hid (by
          unfold fewB
          rw [← F.out, List.drop_of_length_le (by omega), hl, decide_eq_true h40]
          rfl)
        clear F
        go_wp2_with fail
        go_ret
        exact ⟨by rw [F2.out]; rfl, hb⟩
  · have hd : (40 : Int) < (n : Int) := by omega
    have F2 : Hid (fewB R = false) := Lib.hid (by unfold fewB; rw [hl, decide_eq_false h40, Bool.false_and])
    clear h
    go_enter Tryz.func4, Tryz.ntmps4
    go_wp2_with fail
    go_ret
    exact ⟨by rw [F2.out]; rfl, Below.refl _ _⟩
theorem fewB_at {R : List (List Int)} {j : Nat} {xs : List Int} (h : fewB R = true) (hj : R[j]? = some xs) : xs.length ≤ 30 := by
  unfold fewB at h
  rw [Bool.and_eq_true] at h
  have := List.all_eq_true.1 h.2 xs (List.mem_of_getElem? hj)
  exact of_decide_eq_true this
end Go.Proofs.YtgglbjniclkkpaaGreatDoor

/-
  The readers' small numbers: (*image.reader).small.
-/
import Derived.Test.YtgglbjniclkkpaaDoorNumber
namespace Go.Proofs.YtgglbjniclkkpaaDoor
open Go.RowKit
set_option linter.unusedVariables false

/-- A number from 0 to 4000 is read. -/
def SmallR (T : TypeId) (a : Nat) (s : ByteArray) (bad : Bool) (w : World) (r : Ending) (w' : World) : Prop :=
  ∃ (k : Nat) (t : ByteArray) (bad' : Bool), r = .returned (.int .i64 k) ∧ k ≤ 4000 ∧ RdAt w' a T t bad' ∧ t.size ≤ s.size ∧ w.grownBy w' (some a) ∧
    (bad' = false → bad = false ∧ smallV s.data.toList = some (k, t.data.toList)) ∧ (bad' = true → bad = true ∨ smallV s.data.toList = none)
/-- What a number gives a small one. -/
theorem small_in {T : TypeId} {a : Nat} {s t : ByteArray} {bad bad' : Bool} {w w' : World} {n : Int} (h0 : 0 ≤ n) (h1 : n ≤ 4000) (hr : RdAt w' a T t bad') (ht : t.size ≤ s.size) (hg : w.grownBy w' (some a))
    (hf : bad' = false → bad = false ∧ getV s.data.toList = some (n, t.data.toList)) (htr : bad' = true → bad = true ∨ getV s.data.toList = none) : SmallR T a s bad w (.returned (.int .i64 n)) w' := by
  refine ⟨n.toNat, t, bad', by rw [Int.toNat_of_nonneg h0], by omega, hr, ht, hg, fun h => ?_, fun h => ?_⟩
  · obtain ⟨e1, e2⟩ := hf h
    refine ⟨e1, ?_⟩
    unfold smallV
    rw [e2]
    simp only []
    rw [if_neg (by omega)]
  · rcases htr h with h | h
    · exact .inl h
    · exact .inr (by unfold smallV; rw [h])
theorem small_out {T : TypeId} {a : Nat} {s t : ByteArray} {bad bad' : Bool} {w w' : World} {n : Int} (h0 : n < 0 ∨ 4000 < n) (hr : RdAt w' a T t bad') (ht : t.size ≤ s.size) (hg : w.grownBy w' (some a))
    (hf : bad' = false → bad = false ∧ getV s.data.toList = some (n, t.data.toList)) (htr : bad' = true → bad = true ∨ getV s.data.toList = none) : SmallR T a s bad w (.returned (.int .i64 0)) (w'.setCell ⟨a, 1, none⟩ (.bool true)) := by
  refine ⟨0, t, true, rfl, by omega, hr.set1, ht, grown_set hg _, (fun h => by cases h), fun _ => ?_⟩
  cases bad'
  · obtain ⟨e1, e2⟩ := hf rfl
    right
    unfold smallV
    rw [e2]
    simp only []
    rw [if_pos h0]
  · rcases htr rfl with h | h
    · exact .inl h
    · exact .inr (by unfold smallV; rw [h])
set_option maxHeartbeats 2000000 in
set_option maxRecDepth 100000 in
theorem small_any (a : Nat) (s : ByteArray) (bad : Bool) (hs : s.size ≤ 1500) (w : World) (h : RdAt w a 102 s bad) : Calls Tryd.prog 58 #[.pointer (some ⟨a, 0, none⟩)] w (SmallR 102 a s bad w) := by
  have HN := Lib.hid (number_any a s bad hs w h)
  clear h
  go_enter Tryd.func58, Tryd.ntmps58
  go_wp2_with (go_at_call 78; refine HN.out.mono ?_; rintro r w1 ⟨n, t, bad', rfl, hn, hr, ht, hg, hf, htr⟩; have R := Lib.hid hr; have G := Lib.hid hg; have F := Lib.hid hf; have TR := Lib.hid htr; have c1 := R.out.c1; have f1 := R.out.f0 1; clear hr hg hf htr hn)
  all_goals (first | (go_ret; exact small_in (by omega) (by omega) R.out ht G.out F.out TR.out) | (go_ret; exact small_out (by omega) R.out ht G.out F.out TR.out) | fail)
end Go.Proofs.YtgglbjniclkkpaaDoor

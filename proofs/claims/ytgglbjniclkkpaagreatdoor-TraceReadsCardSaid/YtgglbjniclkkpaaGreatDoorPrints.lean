/-
  ref.PrintTicks.
-/
import Derived.Test.YtgglbjniclkkpaaGreatDoorOwn
import Derived.Lib.ItoaLen
namespace Go.Proofs.YtgglbjniclkkpaaGreatDoor
open Go.RowKit
set_option linter.unusedVariables false

/-- A row's text, with a blank ahead of each number. -/
def rowT (xs : List Int) : List UInt8 := xs.flatMap fun n => 32 :: Lib.itoa n
def linesT (R : List (List Int)) : List UInt8 := R.flatMap fun xs => (rowT xs).drop 1 ++ [10]
theorem rowT_snoc (xs : List Int) (n : Int) : rowT (xs ++ [n]) = rowT xs ++ 32 :: Lib.itoa n := by simp [rowT, List.flatMap_append]
theorem linesT_snoc (R : List (List Int)) (xs : List Int) : linesT (R ++ [xs]) = linesT R ++ ((rowT xs).drop 1 ++ [10]) := by simp [linesT, List.flatMap_append]
theorem trim_rowT (xs : List Int) : Lib.trimPrefix (rowT xs) [32] = (rowT xs).drop 1 := by
  cases xs with
  | nil => rfl
  | cons x r => simp [rowT, Lib.trimPrefix, Lib.hasPrefix]
theorem ofL_append (a b : List UInt8) : ofL a ++ ofL b = ofL (a ++ b) := by
  apply ByteArray.ext
  rw [ByteArray.data_append]
  simp [ofL]
theorem ofL_size (l : List UInt8) : (ofL l).size = l.length := by show l.toArray.size = _; simp
theorem rowT_len : ∀ (xs : List Int), (∀ x ∈ xs, okN x) → (rowT xs).length ≤ 22 * xs.length
  | [], _ => Nat.le_refl _
  | x :: r, h => by
    have h1 := rowT_len r (fun y hy => h y (by simp [hy]))
    have h2 := Lib.itoa_length_le x (h x (by simp)).1 (h x (by simp)).2
    have e : rowT (x :: r) = 32 :: Lib.itoa x ++ rowT r := by simp [rowT]
    rw [e]
    simp only [List.length_append, List.length_cons]
    omega
theorem linesT_len : ∀ (R : List (List Int)), (∀ xs ∈ R, (rowT xs).length ≤ 660) → (linesT R).length ≤ 661 * R.length
  | [], _ => Nat.le_refl _
  | x :: r, h => by
    have h1 := linesT_len r (fun y hy => h y (by simp [hy]))
    have h2 := h x (by simp)
    have e : linesT (x :: r) = ((rowT x).drop 1 ++ [10]) ++ linesT r := by simp [linesT]
    rw [e]
    simp only [List.length_append, List.length_cons, List.length_nil, List.length_drop]
    omega
theorem fmt_size {v : Int} (h : okN v) : (fmtV v).size ≤ 21 := by
  unfold fmtV
  rw [ofL_size]
  exact Lib.itoa_length_le v h.1 h.2
set_option maxHeartbeats 4000000 in
set_option maxRecDepth 100000 in
theorem printTicks_any (B : Option Addr) (n c : Nat) (R : List (List Int)) (w : World) (h : Env w) (hB : RowsAt w B n R) (hf : fewB R = true) : Calls Tryz.prog 9 #[.slice B n c] w fun e w' => e = .returned (.string (ofL (linesT R))) ∧ Below w.heap.size w w' := by
  have H := Lib.hid hB
  have E := Lib.hid h
  have FF := Lib.hid hf
  have hR : ∀ xs ∈ R, xs.length ≤ 30 ∧ ∀ x ∈ xs, okN x := by
    intro xs hm
    obtain ⟨k, hk⟩ := List.mem_iff_getElem?.1 hm
    have hkn : k < n := by rw [← hB.1]; exact (List.getElem?_eq_some_iff.1 hk).1
    obtain ⟨b, o, e, hc⟩ := hB.2 (by omega)
    obtain ⟨_, _, _, ys, h1, _, _, h4⟩ := hc k hkn
    rw [hk] at h1
    cases h1
    refine ⟨?_, h4⟩
    unfold fewB at hf
    simp only [Bool.and_eq_true, decide_eq_true_eq, List.all_eq_true] at hf
    exact hf.2 xs hm
  have hRn : R.length ≤ 40 := by
    unfold fewB at hf
    simp only [Bool.and_eq_true, decide_eq_true_eq] at hf
    exact hf.1
  have HR := Lib.hid hR
  clear hB h hf hR
  go_enter Tryz.func9, Tryz.ntmps9
  go_wp2_with fail
  go_loopw [3, 11] (fun t i wr => ∃ (k : Nat), k ≤ n ∧ i = .int .i64 k ∧ t = .string (ofL (linesT (R.take k))) ∧ Hid (Below w.heap.size w wr)) (fun _ i _ => n - (intOf i).toNat)
  case atStart => exact ⟨0, Nat.zero_le _, rfl, rfl, Lib.hid (Below.refl _ _)⟩
  case round =>
    obtain ⟨k, hk, rfl, rfl, BB⟩ := hrel
    have hRnn := H.out.1
    by_cases hlt : k < n
    · obtain ⟨b, o, rfl, hc⟩ := (H.out.up BB.out).2 (by omega)
      obtain ⟨A2, n2, c2, xs, hx, hcx, hxs, hok⟩ := hc k hlt
      have X := Lib.hid hxs
      have hxnn := hxs.1
      have OK := Lib.hid hok
      have i0' : (0 : Int) ≤ (k : Int) := by omega
      have i1' : (k : Int) < (n : Int) := by omega
      have ht : R.take (k + 1) = R.take k ++ [xs] := by rw [List.take_add_one, hx]; rfl
      have HT : Hid (ofL (linesT (R.take (k + 1))) = ofL (linesT (R.take k) ++ ((rowT xs).drop 1 ++ [10]))) := Lib.hid (by rw [ht, linesT_snoc])
      have hl30 := (HR.out xs (List.mem_of_getElem? hx)).1
      have hTl : (linesT (R.take k)).length ≤ 661 * (R.take k).length := linesT_len _ (fun ys hy => by
        have h1 := HR.out ys (List.mem_of_mem_take hy)
        have h2 := rowT_len ys h1.2
        omega)
      have hTl2 : (linesT (R.take k)).length ≤ 30000 := by
        have : (R.take k).length ≤ R.length := by rw [List.length_take]; omega
        omega
      obtain ⟨T, hT⟩ : ∃ T, T = linesT (R.take k) := ⟨_, rfl⟩
      rw [← hT] at HT hTl2
      rw [← hT]
      clear hTl
      clear hc hx ht hxs hok hT
      go_wp2_with fail
      go_loopw [6, 17] (fun t i wr2 => ∃ (j : Nat), j ≤ n2 ∧ i = .int .i64 j ∧ t = .string (ofL (rowT (xs.take j))) ∧ Hid (Below wr.heap.size wr wr2)) (fun _ i _ => n2 - (intOf i).toNat)
      case atStart => exact ⟨0, Nat.zero_le _, rfl, rfl, Lib.hid (Below.refl _ _)⟩
      case round =>
        obtain ⟨j, hj, rfl, rfl, B2⟩ := hrel
        by_cases hlt2 : j < n2
        · obtain ⟨b', o', rfl, hc⟩ := (X.out.up B2.out).2 (by omega)
          have hcj := hc j hlt2
          have hxj : xs[j]? = some (xs.getD j 0) := by rw [List.getD_eq_getElem?_getD, List.getElem?_eq_getElem (by rw [X.out.1]; exact hlt2)]; rfl
          have hokj := OK.out _ (List.mem_of_getElem? hxj)
          have ht : xs.take (j + 1) = xs.take j ++ [xs.getD j 0] := by rw [List.take_add_one, hxj]; rfl
          have HT2 : Hid (ofL (rowT (xs.take (j + 1))) = ofL (rowT (xs.take j) ++ 32 :: Lib.itoa (xs.getD j 0))) := Lib.hid (by rw [ht, rowT_snoc])
          obtain ⟨v, hv⟩ : ∃ v, v = xs.getD j 0 := ⟨_, rfl⟩
          rw [← hv] at HT2 hokj hcj
          have HFM := Lib.hid (format_any v hokj wr (E.out.up (below_up BB.out B2.out)))
          have j0' : (0 : Int) ≤ (j : Int) := by omega
          have j1' : (j : Int) < (n2 : Int) := by omega
          obtain ⟨U, hU⟩ : ∃ U, U = rowT (xs.take j) := ⟨_, rfl⟩
          have hUl : U.length ≤ 700 := by
            have h1 := rowT_len (xs.take j) (fun y hy => OK.out y (List.mem_of_mem_take hy))
            have h2 : (xs.take j).length ≤ xs.length := by rw [List.length_take]; omega
            rw [hU]
            omega
          have hz1 := fmt_size hokj
          have hz2 := ofL_size U
          have hz3 : ¬ 9223372036854775807 < 1 + (fmtV v).size := by omega
          have hz4 : ¬ 9223372036854775807 < (ofL U).size + (1 + (fmtV v).size) := by omega
          rw [← hU] at HT2
          rw [← hU]
          clear hc hv ht hxj hokj hU
          go_wp2_with (go_at_call 20; refine HFM.out.mono ?_; rintro r w3 ⟨rfl, hb3⟩)
          go_roundw
          case rel => exact ⟨j + 1, by omega, by go_num, by rw [HT2.out]; unfold fmtV; rw [show (⟨#[32]⟩ : ByteArray) = ofL [32] from rfl, ofL_append, ofL_append]; rfl, Lib.hid (below_up B2.out hb3)⟩
          case measure => simp [intOf]; omega
        · obtain rfl : n2 = j := by omega
          have HX : Hid (ofL (rowT (xs.take n2)) = ofL (rowT xs)) := Lib.hid (by rw [List.take_of_length_le (by rw [X.out.1]; exact Nat.le_refl _)])
          have HTP : Hid (∀ W : World, Calls Tryz.prog 25 #[.string (ofL (rowT xs)), .string ⟨#[32]⟩] W fun e w' => e = .returned (.string (ofL ((rowT xs).drop 1))) ∧ w' = W) := Lib.hid fun W => by
            have h := Tryz.strings_TrimPrefix (ofL (rowT xs)) ⟨#[32]⟩ W
            rw [toList_ofL, show (⟨#[32]⟩ : ByteArray).data.toList = [32] from rfl, trim_rowT] at h
            exact h
          have hDl : ((rowT xs).drop 1).length ≤ 700 := by
            have h1 := rowT_len xs OK.out
            rw [List.length_drop]
            omega
          obtain ⟨D, hD⟩ : ∃ D, D = (rowT xs).drop 1 := ⟨_, rfl⟩
          rw [← hD] at HT HTP hDl
          have hz1 := ofL_size D
          have hz2 := ofL_size T
          have hz3 : ¬ 9223372036854775807 < (ofL D).size + 1 := by omega
          have hz4 : ¬ 9223372036854775807 < (ofL T).size + ((ofL D).size + 1) := by omega
          rw [HX.out]
          clear hD
          go_wp2_with (go_at_call 25; refine (HTP.out _).mono ?_; rintro r w3 ⟨rfl, rfl⟩)
          go_roundw
          case rel => exact ⟨k + 1, by omega, by go_num, by rw [HT.out, show (⟨#[10]⟩ : ByteArray) = ofL [10] from rfl, ofL_append, ofL_append], Lib.hid (below_up BB.out B2.out)⟩
          case measure => simp [intOf]; omega
    · obtain rfl : n = k := by omega
      have HR : Hid (R.take n = R) := Lib.hid (List.take_of_length_le (by rw [H.out.1]; exact Nat.le_refl _))
      rw [HR.out]
      go_wp2_with fail
      go_ret
      exact ⟨rfl, BB.out⟩
end Go.Proofs.YtgglbjniclkkpaaGreatDoor

/-
  sameNumbers, of the law's and of the keep's.
-/
import Derived.Test.YtgglbjniclkkpaaDoorSlices
namespace Go.Proofs.YtgglbjniclkkpaaDoor
open Go.RowKit
set_option linter.unusedVariables false

set_option maxHeartbeats 1000000 in
theorem sameNumsL_any (A B : Option Addr) (n c m d : Nat) (xs ys : List Int) (w : World) (hx : IntsAt w A n xs) (hy : IntsAt w B m ys) (hn : n ≤ 65536) :
    Calls Tryd.prog 34 #[.slice A n c, .slice B m d] w fun e w' => e = .returned (.bool (sameB xs ys)) ∧ Below w.heap.size w w' := by
  by_cases hnm : n = m
  · subst hnm
    rcases Nat.eq_zero_or_pos n with h0 | h0
    · subst h0
      obtain rfl := hx.zero
      obtain rfl := hy.zero
      clear hx hy
      go_enter Tryd.func34, Tryd.ntmps34
      go_wp2
      go_loop [5] (fun i => i = .int .i64 (0 : Nat)) (fun _ => 0)
      case atStart => rfl
      case round =>
        subst hrel
        go_wp2
        go_ret
        exact ⟨rfl, Below.refl _ _⟩
    obtain ⟨b, o, rfl, hc⟩ := hx.2 h0
    obtain ⟨b', o', rfl, hc'⟩ := hy.2 h0
    have H := Lib.hid hx
    have HC := Lib.hid hc
    have H' := Lib.hid hy
    have HC' := Lib.hid hc'
    clear hx hc hy hc'
    go_enter Tryd.func34, Tryd.ntmps34
    go_wp2
    go_loopw [5] (fun i wr => ∃ k : Nat, k ≤ n ∧ i = .int .i64 k ∧ Hid (sameB (xs.drop k) (ys.drop k) = sameB xs ys) ∧ Below w.heap.size w wr) (fun i _ => n - (intOf i).toNat)
    case atStart => exact ⟨0, Nat.zero_le _, rfl, by show _ = _; simp, Below.refl _ _⟩
    case round =>
      obtain ⟨k, hk, rfl, hf, hb⟩ := hrel
      by_cases hlt : k < n
      · obtain ⟨x, hcell, hd⟩ : ∃ x, wr.cell? ⟨b, o + k, none⟩ = some (.int .i64 x) ∧ Hid (xs.drop k = x :: xs.drop (k + 1)) := ⟨_, cell_up hb (HC.out k hlt), H.out.drop_cons hlt⟩
        obtain ⟨y, hcell', hd'⟩ : ∃ y, wr.cell? ⟨b', o' + k, none⟩ = some (.int .i64 y) ∧ Hid (ys.drop k = y :: ys.drop (k + 1)) := ⟨_, cell_up hb (HC'.out k hlt), H'.out.drop_cons hlt⟩
        have i0 : (0 : Int) ≤ (k : Int) := by omega
        have i1 : (k : Int) < (n : Int) := by omega
        by_cases ht : x = y
        · have ht' := Lib.hid ht
          have hne : (x != y) = false := by simp [ht]
          clear ht
          go_wp2
          go_quiet (fail)
          go_wp2
          go_roundw
          case rel => exact ⟨k + 1, by omega, by go_num, (by show _ = _; rw [← hf.out, hd.out, hd'.out, sameB, if_pos ht'.out]), hb.trans ⟨rfl, rfl, rfl, Nat.le_refl _, fun _ _ => rfl⟩⟩
          case measure => simp [intOf]; omega
        · have ht' := Lib.hid ht
          have hne : (x != y) = true := by simp [ht]
          clear ht
          go_wp2
          go_quiet (fail)
          go_wp2
          go_ret
          exact ⟨by rw [← hf.out, hd.out, hd'.out, sameB, if_neg ht'.out]; rfl, hb.trans ⟨rfl, rfl, rfl, Nat.le_refl _, fun _ _ => rfl⟩⟩
      · have hd := Lib.hid (H.out.drop_end (k := k) (by omega))
        have hd' := Lib.hid (H'.out.drop_end (k := k) (by omega))
        go_wp2
        go_ret
        exact ⟨by rw [← hf.out, hd.out, hd'.out]; rfl, hb⟩
  · have hl : sameB xs ys = false := sameB_len (by rw [hx.1, hy.1]; exact hnm)
    rw [hl]
    have hne : ((n : Int) != (m : Int)) = true := by simp; omega
    clear hl hx hy hnm
    go_enter Tryd.func34, Tryd.ntmps34
    go_wp2
    go_ret
    exact ⟨rfl, Below.refl _ _⟩
set_option maxHeartbeats 1000000 in
theorem sameNumsK_any (A B : Option Addr) (n c m d : Nat) (xs ys : List Int) (w : World) (hx : IntsAt w A n xs) (hy : IntsAt w B m ys) (hn : n ≤ 65536) :
    Calls Tryd.prog 25 #[.slice A n c, .slice B m d] w fun e w' => e = .returned (.bool (sameB xs ys)) ∧ Below w.heap.size w w' := by
  by_cases hnm : n = m
  · subst hnm
    rcases Nat.eq_zero_or_pos n with h0 | h0
    · subst h0
      obtain rfl := hx.zero
      obtain rfl := hy.zero
      clear hx hy
      go_enter Tryd.func25, Tryd.ntmps25
      go_wp2
      go_loop [5] (fun i => i = .int .i64 (0 : Nat)) (fun _ => 0)
      case atStart => rfl
      case round =>
        subst hrel
        go_wp2
        go_ret
        exact ⟨rfl, Below.refl _ _⟩
    obtain ⟨b, o, rfl, hc⟩ := hx.2 h0
    obtain ⟨b', o', rfl, hc'⟩ := hy.2 h0
    have H := Lib.hid hx
    have HC := Lib.hid hc
    have H' := Lib.hid hy
    have HC' := Lib.hid hc'
    clear hx hc hy hc'
    go_enter Tryd.func25, Tryd.ntmps25
    go_wp2
    go_loopw [5] (fun i wr => ∃ k : Nat, k ≤ n ∧ i = .int .i64 k ∧ Hid (sameB (xs.drop k) (ys.drop k) = sameB xs ys) ∧ Below w.heap.size w wr) (fun i _ => n - (intOf i).toNat)
    case atStart => exact ⟨0, Nat.zero_le _, rfl, by show _ = _; simp, Below.refl _ _⟩
    case round =>
      obtain ⟨k, hk, rfl, hf, hb⟩ := hrel
      by_cases hlt : k < n
      · obtain ⟨x, hcell, hd⟩ : ∃ x, wr.cell? ⟨b, o + k, none⟩ = some (.int .i64 x) ∧ Hid (xs.drop k = x :: xs.drop (k + 1)) := ⟨_, cell_up hb (HC.out k hlt), H.out.drop_cons hlt⟩
        obtain ⟨y, hcell', hd'⟩ : ∃ y, wr.cell? ⟨b', o' + k, none⟩ = some (.int .i64 y) ∧ Hid (ys.drop k = y :: ys.drop (k + 1)) := ⟨_, cell_up hb (HC'.out k hlt), H'.out.drop_cons hlt⟩
        have i0 : (0 : Int) ≤ (k : Int) := by omega
        have i1 : (k : Int) < (n : Int) := by omega
        by_cases ht : x = y
        · have ht' := Lib.hid ht
          have hne : (x != y) = false := by simp [ht]
          clear ht
          go_wp2
          go_quiet (fail)
          go_wp2
          go_roundw
          case rel => exact ⟨k + 1, by omega, by go_num, (by show _ = _; rw [← hf.out, hd.out, hd'.out, sameB, if_pos ht'.out]), hb.trans ⟨rfl, rfl, rfl, Nat.le_refl _, fun _ _ => rfl⟩⟩
          case measure => simp [intOf]; omega
        · have ht' := Lib.hid ht
          have hne : (x != y) = true := by simp [ht]
          clear ht
          go_wp2
          go_quiet (fail)
          go_wp2
          go_ret
          exact ⟨by rw [← hf.out, hd.out, hd'.out, sameB, if_neg ht'.out]; rfl, hb.trans ⟨rfl, rfl, rfl, Nat.le_refl _, fun _ _ => rfl⟩⟩
      · have hd := Lib.hid (H.out.drop_end (k := k) (by omega))
        have hd' := Lib.hid (H'.out.drop_end (k := k) (by omega))
        go_wp2
        go_ret
        exact ⟨by rw [← hf.out, hd.out, hd'.out]; rfl, hb⟩
  · have hl : sameB xs ys = false := sameB_len (by rw [hx.1, hy.1]; exact hnm)
    rw [hl]
    have hne : ((n : Int) != (m : Int)) = true := by simp; omega
    clear hl hx hy hnm
    go_enter Tryd.func25, Tryd.ntmps25
    go_wp2
    go_ret
    exact ⟨rfl, Below.refl _ _⟩
end Go.Proofs.YtgglbjniclkkpaaDoor

/-
  slices.Index, Contains, IndexFunc, ContainsFunc at ints, and the laws' own comparison of two lists of ints.
-/
import Derived.Test.YtgglbjniclkkpaaDoorProg
import Derived.Test.YtgglbjniclkkpaaDoorMem
import Derived.WalkKit
import Derived.WalkLawsBesides
import Derived.WalkSpells
import Derived.Deep.QuietTactic
import Derived.BigQuiet
namespace Go.Proofs.YtgglbjniclkkpaaDoor
open Go.RowKit

set_option maxHeartbeats 1000000 in
theorem index_any (A : Option Addr) (n c : Nat) (xs : List Int) (x : Int) (w : World) (hx : IntsAt w A n xs) (hn : n ≤ 65536) :
    Calls Tryd.prog 72 #[.slice A n c, .int .i64 x] w fun e w' => e = .returned (.int .i64 (findAt (· == x) xs 0)) ∧ w = w' := by
  rcases Nat.eq_zero_or_pos n with h0 | h0
  · subst h0
    have e := Lib.hid hx.zero
    clear hx
    go_enter Tryd.func72, Tryd.ntmps72
    go_wp2
    go_loop [5, 8] (fun _ i => i = .int .i64 (0 : Nat)) (fun _ _ => 0)
    case atStart => rfl
    case round =>
      subst hrel
      go_wp2
      go_ret
      rw [e.out]
      exact ⟨rfl, rfl⟩
  obtain ⟨b, o, rfl, hc⟩ := hx.2 h0
  have H := Lib.hid hx
  have HC := Lib.hid hc
  clear hx hc
  go_enter Tryd.func72, Tryd.ntmps72
  go_wp2
  go_loop [5, 8] (fun _ i => ∃ k : Nat, k ≤ n ∧ i = .int .i64 k ∧ Hid (findAt (· == x) (xs.drop k) k = findAt (· == x) xs 0)) (fun _ i => n - (intOf i).toNat)
  case atStart => exact ⟨0, Nat.zero_le _, rfl, by show _ = _; simp⟩
  case round =>
    obtain ⟨k, hk, rfl, hf⟩ := hrel
    by_cases hlt : k < n
    · obtain ⟨y, hcell, hd⟩ : ∃ y, w.cell? ⟨b, o + k, none⟩ = some (.int .i64 y) ∧ Hid (xs.drop k = y :: xs.drop (k + 1)) := ⟨_, HC.out k hlt, H.out.drop_cons hlt⟩
      cases ht : x == y
      · have ht' := Lib.hid ht
        go_wp2
        go_round
        case rel => exact ⟨k + 1, by omega, by go_num, by show _ = _; rw [← hf.out, hd.out, findAt, if_neg (by rw [Bool.beq_comm]; simp [ht'.out])]⟩
        case measure => simp [intOf]; omega
      · have ht' := Lib.hid ht
        go_wp2
        go_ret
        exact ⟨by rw [← hf.out, hd.out, findAt, if_pos (by rw [Bool.beq_comm]; exact ht'.out)]; rfl, rfl⟩
    · have hd := Lib.hid (H.out.drop_end (k := k) (by omega))
      go_wp2
      go_ret
      exact ⟨by rw [← hf.out, hd.out]; rfl, rfl⟩

theorem contains_any (A : Option Addr) (n c : Nat) (xs : List Int) (x : Int) (w : World) (hx : IntsAt w A n xs) (hn : n ≤ 65536) :
    Calls Tryd.prog 42 #[.slice A n c, .int .i64 x] w fun e w' => e = .returned (.bool (xs.any (· == x))) ∧ w = w' := by
  have h := findAt_pos (· == x) xs 0
  obtain ⟨r, hr⟩ : ∃ r, r = findAt (· == x) xs 0 := ⟨_, rfl⟩
  have hi := index_any A n c xs x w hx hn
  rw [← hr] at h hi
  rw [← h]
  clear hr h
  have HI := Lib.hid hi
  clear hi hx
  go_enter Tryd.func42, Tryd.ntmps42
  go_wp2_with (go_at_call 72; refine HI.out.mono ?_; rintro e w' ⟨rfl, rfl⟩)
  go_ret
  exact ⟨rfl, rfl⟩

/-- A function value that answers p, in every world in which what lay in w lies as it lay. -/
def Says (w : World) (g : Nat) (a : Addr) (p : Int → Bool) : Prop := ∀ (x : Int) (W : World), Below w.heap.size w W → Calls Tryd.prog g #[.int .i64 x, .pointer (some a)] W fun e W' => e = .returned (.bool (p x)) ∧ Below W.heap.size W W'
theorem Says.run {w W : World} {g : Nat} {a : Addr} {p : Int → Bool} (h : Says w g a p) (x : Int) (hb : Below w.heap.size w W) : Calls Tryd.prog g #[.int .i64 x, .pointer (some a)] W fun e W' => e = .returned (.bool (p x)) ∧ Below W.heap.size W W' := h x W hb
theorem Says.up {w W : World} {g : Nat} {a : Addr} {p : Int → Bool} (h : Says w g a p) (hb : Below w.heap.size w W) : Says W g a p := fun x W' hb' => h x W' (below_up hb hb')

set_option maxHeartbeats 1000000 in
theorem indexFunc_Check (A : Option Addr) (n c : Nat) (xs : List Int) (a : Addr) (p : Int → Bool) (w : World) (hx : IntsAt w A n xs) (hn : n ≤ 65536) (hp : Says w 41 a p) :
    Calls Tryd.prog 71 #[.slice A n c, .func (.func 41) #[] #[.pointer (some a)]] w fun e w' => e = .returned (.int .i64 (findAt p xs 0)) ∧ Below w.heap.size w w' := by
  rcases Nat.eq_zero_or_pos n with h0 | h0
  · subst h0
    have e := Lib.hid hx.zero
    clear hx
    go_enter Tryd.func71, Tryd.ntmps71
    go_wp2
    go_loop [5, 8] (fun _ i => i = .int .i64 (0 : Nat)) (fun _ _ => 0)
    case atStart => rfl
    case round =>
      subst hrel
      go_wp2
      go_ret
      rw [e.out]
      exact ⟨rfl, Below.refl _ _⟩
  obtain ⟨b, o, rfl, hc⟩ := hx.2 h0
  have H := Lib.hid hx
  have HC := Lib.hid hc
  have HP := Lib.hid hp
  clear hx hc hp
  go_enter Tryd.func71, Tryd.ntmps71
  go_wp2
  go_loopw [5, 8] (fun _ i wr => ∃ k : Nat, k ≤ n ∧ i = .int .i64 k ∧ Hid (findAt p (xs.drop k) k = findAt p xs 0) ∧ Below w.heap.size w wr) (fun _ i _ => n - (intOf i).toNat)
  case atStart => exact ⟨0, Nat.zero_le _, rfl, by show _ = _; simp, Below.refl _ _⟩
  case round =>
    obtain ⟨k, hk, rfl, hf, hb⟩ := hrel
    by_cases hlt : k < n
    · obtain ⟨y, hcell, hd⟩ : ∃ y, wr.cell? ⟨b, o + k, none⟩ = some (.int .i64 y) ∧ Hid (xs.drop k = y :: xs.drop (k + 1)) := ⟨_, cell_up hb (HC.out k hlt), H.out.drop_cons hlt⟩
      have HY := Lib.hid (HP.out.run y hb)
      cases ht : p y
      · rw [ht] at HY
        have ht' := Lib.hid ht
        clear ht
        go_wp2_with fail
        refine HY.out.mono ?_
        rintro e w1 ⟨rfl, hb1⟩
        go_wp2
        go_roundw
        case rel => exact ⟨k + 1, by omega, by go_num, (by show _ = _; rw [← hf.out, hd.out, findAt, if_neg (by simp [ht'.out])]), below_up hb hb1⟩
        case measure => simp [intOf]; omega
      · rw [ht] at HY
        have ht' := Lib.hid ht
        clear ht
        go_wp2_with fail
        refine HY.out.mono ?_
        rintro e w1 ⟨rfl, hb1⟩
        go_wp2
        go_ret
        exact ⟨by rw [← hf.out, hd.out, findAt, if_pos ht'.out]; rfl, below_up hb hb1⟩
    · have hd := Lib.hid (H.out.drop_end (k := k) (by omega))
      go_wp2
      go_ret
      exact ⟨by rw [← hf.out, hd.out]; rfl, hb⟩
theorem containsFunc_Check (A : Option Addr) (n c : Nat) (xs : List Int) (a : Addr) (p : Int → Bool) (w : World) (hx : IntsAt w A n xs) (hn : n ≤ 65536) (hp : Says w 41 a p) :
    Calls Tryd.prog 40 #[.slice A n c, .func (.func 41) #[] #[.pointer (some a)]] w fun e w' => e = .returned (.bool (xs.any p)) ∧ Below w.heap.size w w' := by
  have h := findAt_pos p xs 0
  obtain ⟨r, hr⟩ : ∃ r, r = findAt p xs 0 := ⟨_, rfl⟩
  have hi := indexFunc_Check A n c xs a p w hx hn hp
  rw [← hr] at h hi
  rw [← h]
  clear hr h
  have HI := Lib.hid hi
  clear hi hx hp
  go_enter Tryd.func40, Tryd.ntmps40
  go_wp2_with (go_at_call 71; refine HI.out.mono ?_; rintro e w' ⟨rfl, hb⟩)
  go_ret
  exact ⟨rfl, hb⟩

set_option maxHeartbeats 1000000 in
theorem indexFunc_Step (A : Option Addr) (n c : Nat) (xs : List Int) (a : Addr) (p : Int → Bool) (w : World) (hx : IntsAt w A n xs) (hn : n ≤ 65536) (hp : Says w 74 a p) :
    Calls Tryd.prog 71 #[.slice A n c, .func (.func 74) #[] #[.pointer (some a)]] w fun e w' => e = .returned (.int .i64 (findAt p xs 0)) ∧ Below w.heap.size w w' := by
  rcases Nat.eq_zero_or_pos n with h0 | h0
  · subst h0
    have e := Lib.hid hx.zero
    clear hx
    go_enter Tryd.func71, Tryd.ntmps71
    go_wp2
    go_loop [5, 8] (fun _ i => i = .int .i64 (0 : Nat)) (fun _ _ => 0)
    case atStart => rfl
    case round =>
      subst hrel
      go_wp2
      go_ret
      rw [e.out]
      exact ⟨rfl, Below.refl _ _⟩
  obtain ⟨b, o, rfl, hc⟩ := hx.2 h0
  have H := Lib.hid hx
  have HC := Lib.hid hc
  have HP := Lib.hid hp
  clear hx hc hp
  go_enter Tryd.func71, Tryd.ntmps71
  go_wp2
  go_loopw [5, 8] (fun _ i wr => ∃ k : Nat, k ≤ n ∧ i = .int .i64 k ∧ Hid (findAt p (xs.drop k) k = findAt p xs 0) ∧ Below w.heap.size w wr) (fun _ i _ => n - (intOf i).toNat)
  case atStart => exact ⟨0, Nat.zero_le _, rfl, by show _ = _; simp, Below.refl _ _⟩
  case round =>
    obtain ⟨k, hk, rfl, hf, hb⟩ := hrel
    by_cases hlt : k < n
    · obtain ⟨y, hcell, hd⟩ : ∃ y, wr.cell? ⟨b, o + k, none⟩ = some (.int .i64 y) ∧ Hid (xs.drop k = y :: xs.drop (k + 1)) := ⟨_, cell_up hb (HC.out k hlt), H.out.drop_cons hlt⟩
      have HY := Lib.hid (HP.out.run y hb)
      cases ht : p y
      · rw [ht] at HY
        have ht' := Lib.hid ht
        clear ht
        go_wp2_with fail
        refine HY.out.mono ?_
        rintro e w1 ⟨rfl, hb1⟩
        go_wp2
        go_roundw
        case rel => exact ⟨k + 1, by omega, by go_num, (by show _ = _; rw [← hf.out, hd.out, findAt, if_neg (by simp [ht'.out])]), below_up hb hb1⟩
        case measure => simp [intOf]; omega
      · rw [ht] at HY
        have ht' := Lib.hid ht
        clear ht
        go_wp2_with fail
        refine HY.out.mono ?_
        rintro e w1 ⟨rfl, hb1⟩
        go_wp2
        go_ret
        exact ⟨by rw [← hf.out, hd.out, findAt, if_pos ht'.out]; rfl, below_up hb hb1⟩
    · have hd := Lib.hid (H.out.drop_end (k := k) (by omega))
      go_wp2
      go_ret
      exact ⟨by rw [← hf.out, hd.out]; rfl, hb⟩
theorem containsFunc_Step (A : Option Addr) (n c : Nat) (xs : List Int) (a : Addr) (p : Int → Bool) (w : World) (hx : IntsAt w A n xs) (hn : n ≤ 65536) (hp : Says w 74 a p) :
    Calls Tryd.prog 40 #[.slice A n c, .func (.func 74) #[] #[.pointer (some a)]] w fun e w' => e = .returned (.bool (xs.any p)) ∧ Below w.heap.size w w' := by
  have h := findAt_pos p xs 0
  obtain ⟨r, hr⟩ : ∃ r, r = findAt p xs 0 := ⟨_, rfl⟩
  have hi := indexFunc_Step A n c xs a p w hx hn hp
  rw [← hr] at h hi
  rw [← h]
  clear hr h
  have HI := Lib.hid hi
  clear hi hx hp
  go_enter Tryd.func40, Tryd.ntmps40
  go_wp2_with (go_at_call 71; refine HI.out.mono ?_; rintro e w' ⟨rfl, hb⟩)
  go_ret
  exact ⟨rfl, hb⟩

/-! ### two lists of numbers -/
/-- Are they the same? -/
def sameB : List Int → List Int → Bool
  | [], [] => true
  | x :: r, y :: s => if x = y then sameB r s else false
  | _, _ => false
theorem sameB_eq : ∀ xs ys : List Int, sameB xs ys = true ↔ xs = ys
  | [], [] => by simp [sameB]
  | [], _ :: _ => by simp [sameB]
  | _ :: _, [] => by simp [sameB]
  | x :: r, y :: s => by
    unfold sameB
    by_cases h : x = y
    · rw [if_pos h, sameB_eq r s, h]; simp
    · rw [if_neg h]; simp [h]
theorem sameB_refl (xs : List Int) : sameB xs xs = true := (sameB_eq xs xs).2 rfl
theorem sameB_len {xs ys : List Int} (h : xs.length ≠ ys.length) : sameB xs ys = false := by
  rw [Bool.eq_false_iff]
  intro e
  exact h (by rw [(sameB_eq _ _).1 e])

set_option maxHeartbeats 1000000 in
theorem sameInts_any (A B : Option Addr) (n c m d : Nat) (xs ys : List Int) (w : World) (hx : IntsAt w A n xs) (hy : IntsAt w B m ys) (hn : n ≤ 65536) :
    Calls Tryd.prog 10 #[.slice A n c, .slice B m d] w fun e w' => e = .returned (.bool (sameB xs ys)) ∧ Below w.heap.size w w' := by
  by_cases hnm : n = m
  · subst hnm
    rcases Nat.eq_zero_or_pos n with h0 | h0
    · subst h0
      obtain rfl := hx.zero
      obtain rfl := hy.zero
      clear hx hy
      go_enter Tryd.func10, Tryd.ntmps10
      go_wp2
      go_loop [5] (fun i => i = .int .i64 (0 : Nat)) (fun _ => 0)
      case atStart => rfl
      case round =>
        subst hrel
        go_wp2
        go_ret
        exact ⟨rfl, Below.refl _ _⟩
    obtain ⟨b, o, rfl, hc⟩ := hx.2 h0
    obtain ⟨b', o', rfl, hc'⟩ := hy.2 h0
    have H := Lib.hid hx
    have HC := Lib.hid hc
    have H' := Lib.hid hy
    have HC' := Lib.hid hc'
    clear hx hc hy hc'
    go_enter Tryd.func10, Tryd.ntmps10
    go_wp2
    go_loopw [5] (fun i wr => ∃ k : Nat, k ≤ n ∧ i = .int .i64 k ∧ Hid (sameB (xs.drop k) (ys.drop k) = sameB xs ys) ∧ Below w.heap.size w wr) (fun i _ => n - (intOf i).toNat)
    case atStart => exact ⟨0, Nat.zero_le _, rfl, by show _ = _; simp, Below.refl _ _⟩
    case round =>
      obtain ⟨k, hk, rfl, hf, hb⟩ := hrel
      by_cases hlt : k < n
      · obtain ⟨x, hcell, hd⟩ : ∃ x, wr.cell? ⟨b, o + k, none⟩ = some (.int .i64 x) ∧ Hid (xs.drop k = x :: xs.drop (k + 1)) := ⟨_, cell_up hb (HC.out k hlt), H.out.drop_cons hlt⟩
        obtain ⟨y, hcell', hd'⟩ : ∃ y, wr.cell? ⟨b', o' + k, none⟩ = some (.int .i64 y) ∧ Hid (ys.drop k = y :: ys.drop (k + 1)) := ⟨_, cell_up hb (HC'.out k hlt), H'.out.drop_cons hlt⟩
        have i0 : (0 : Int) ≤ (k : Int) := by omega
        have i1 : (k : Int) < (n : Int) := by omega
        by_cases ht : x = y
        · have ht' := Lib.hid ht
          have hne : (x != y) = false := by simp [ht]
          clear ht
          go_wp2
          go_quiet (fail)
          go_wp2
          go_roundw
          case rel => exact ⟨k + 1, by omega, by go_num, (by show _ = _; rw [← hf.out, hd.out, hd'.out, sameB, if_pos ht'.out]), hb.trans ⟨rfl, rfl, rfl, Nat.le_refl _, fun _ _ => rfl⟩⟩
          case measure => simp [intOf]; omega
        · have ht' := Lib.hid ht
          have hne : (x != y) = true := by simp [ht]
          clear ht
          go_wp2
          go_quiet (fail)
          go_wp2
          go_ret
          exact ⟨by rw [← hf.out, hd.out, hd'.out, sameB, if_neg ht'.out]; rfl, hb.trans ⟨rfl, rfl, rfl, Nat.le_refl _, fun _ _ => rfl⟩⟩
      · have hd := Lib.hid (H.out.drop_end (k := k) (by omega))
        have hd' := Lib.hid (H'.out.drop_end (k := k) (by omega))
        go_wp2
        go_ret
        exact ⟨by rw [← hf.out, hd.out, hd'.out]; rfl, hb⟩
  · have hl : sameB xs ys = false := sameB_len (by rw [hx.1, hy.1]; exact hnm)
    rw [hl]
    have hne : ((n : Int) != (m : Int)) = true := by simp; omega
    clear hl hx hy hnm
    go_enter Tryd.func10, Tryd.ntmps10
    go_wp2
    go_ret
    exact ⟨rfl, Below.refl _ _⟩
end Go.Proofs.YtgglbjniclkkpaaDoor

/-
  image.get: a number is read.
-/
import Derived.Test.YtgglbjniclkkpaaDoorProg
import Derived.Test.YtgglbjniclkkpaaDoorReadPlain
import Derived.WalkKit
import Derived.WalkLawsBesides
import Derived.WalkSpells
import Derived.Lib.Walk
import Derived.Lib.VarintMem
import Derived.Deep.QuietTactic
import Derived.BigQuiet
import Derived.Lib.EndianBits
import Derived.Lib.Zigzag
import Derived.Lib.IndexBytes
import Derived.Outline
namespace Go.Proofs.YtgglbjniclkkpaaDoor
open Go.RowKit
set_option linter.unusedVariables false

theorem pow7 (k : Nat) : (2 : Int) ^ (7 * k) = ((128 ^ k : Nat) : Int) := by
  have e : (2 : Nat) ^ (7 * k) = 128 ^ k := by rw [Nat.pow_mul]
  rw [← e]
  simp
theorem or_step {u c k : Nat} (hu : u < 128 ^ k) (hx : c % 128 * 128 ^ k < 18446744073709551616) (hu2 : u < 18446744073709551616) : bits .or .u64 (u : Int) (IntKind.u64.wrap ((c : Int) % 128 * 2 ^ (7 * k))) = ((u + c % 128 * 128 ^ k : Nat) : Int) := by
  have e2 : (c : Int) % 128 * 2 ^ (7 * k) = ((c % 128 * 128 ^ k : Nat) : Int) := by
    rw [pow7, Int.natCast_mul]
    rfl
  have e3 : IntKind.u64.wrap ((c % 128 * 128 ^ k : Nat) : Int) = ((c % 128 * 128 ^ k : Nat) : Int) := by
    rw [IntKind.wrap_u64]
    omega
  rw [e2, e3, bits_join_low .u64 64 (by decide) wraps_u64 (7 * k) (u : Int) ((c % 128 * 128 ^ k : Nat) : Int) (by omega) (by rw [pow7]; omega) (by omega) (by omega) ?_ (by omega), Int.natCast_add]
  rw [pow7]
  exact Int.ofNat_eq_zero.2 (Nat.mul_mod_left _ _) |>.symm ▸ rfl
theorem xor_unzig {V : Nat} (h : V < 18446744073709551616) : bits .xor .i64 ((V : Int) / 2) (-((V : Int) % 2)) = unzig V := by
  have hc : ∀ a b : Int, bits .xor .i64 a b = bits .xor .i64 b a := fun a b => by
    show IntKind.i64.wrap ((BitVec.ofInt 64 a ^^^ BitVec.ofInt 64 b).toNat : Int) = IntKind.i64.wrap ((BitVec.ofInt 64 b ^^^ BitVec.ofInt 64 a).toNat : Int)
    rw [BitVec.xor_comm]
  have e : (V : Int) / 2 = ((V / 2 : Nat) : Int) := by omega
  unfold unzig
  by_cases hv : V % 2 = 1
  · rw [if_pos hv, show -((V : Int) % 2) = -1 by omega, hc, e, Lib.i64_not _ (by omega)]
  · rw [if_neg hv, show -((V : Int) % 2) = 0 by omega, e]
    show IntKind.i64.wrap ((BitVec.ofInt 64 ((V / 2 : Nat) : Int) ^^^ BitVec.ofInt 64 0).toNat : Int) = _
    have h1 : (BitVec.ofInt 64 ((V / 2 : Nat) : Int)).toNat = V / 2 := by
      rw [BitVec.ofInt_natCast, BitVec.toNat_ofNat]; exact Nat.mod_eq_of_lt (by omega)
    have h2 : (BitVec.ofInt 64 (0 : Int)).toNat = 0 := by decide
    rw [BitVec.toNat_xor, h1, h2, Nat.xor_zero, IntKind.wrap_i64]
    omega
theorem pow_small {k : Nat} (h : k ≤ 8) : 128 ^ k ≤ 72057594037927936 := by
  have := Nat.pow_le_pow_right (n := 128) (by decide) h
  exact Nat.le_trans this (by decide)
theorem mul_small {c k : Nat} (h : k ≤ 8) : c % 128 * 128 ^ k < 18446744073709551616 := by
  have h1 := pow_small h
  have h2 : c % 128 ≤ 127 := by omega
  have := Nat.mul_le_mul h2 h1
  omega
theorem mul_nine {c : Nat} (h : c ≤ 1) : c % 128 * 128 ^ 9 < 18446744073709551616 := by
  have h2 : c % 128 ≤ 1 := by omega
  have := Nat.mul_le_mul_right (128 ^ 9) h2
  have e : (128 : Nat) ^ 9 = 9223372036854775808 := by decide
  rw [e] at *
  omega
theorem pow_nine : (128 : Nat) ^ 9 < 18446744073709551616 := by decide
/-- What image.get hands back. -/
def Got (s : ByteArray) (w : World) (r : Ending) (w' : World) : Prop :=
  ∃ (n : Int) (t : ByteArray) (ok : Bool), r = .returned (.tuple #[.int .i64 n, .string t, .bool ok]) ∧ okN n ∧ getV s.data.toList = (if ok = true then some (n, t.data.toList) else none) ∧ t.size ≤ s.size ∧ w'.heap = w.heap ∧ Below w.heap.size w w'
set_option maxHeartbeats 4000000 in
set_option maxRecDepth 100000 in
theorem get_any (s : ByteArray) (hs : s.size ≤ 1500) (w : World) : Calls Tryd.prog 88 #[.string s] w (Got s w) := by
  have hsz : s.data.toList.length = s.size := by rw [Array.length_toList]; rfl
  obtain ⟨M, hM⟩ : ∃ M : Nat, min (s.size : Int) 10 = (M : Int) := ⟨min s.size 10, by omega⟩
  have hM1 : M ≤ 10 := by omega
  have hM2 : M ≤ s.size := by omega
  have HM : Hid (M = s.size ∨ M = 10) := Lib.hid (by omega)
  have HS := Lib.hid hsz
  clear hsz
  go_enter Tryd.func88, Tryd.ntmps88
  go_wp2
  clear hM
  go_loop [5, 11] (fun u i => ∃ k : Nat, k ≤ 9 ∧ k ≤ M ∧ i = .int .i64 k ∧ u = .int .u64 (valB (s.data.toList.take k) : Nat) ∧ Hid (∀ b ∈ s.data.toList.take k, 128 ≤ b.toNat)) (fun _ i => M - (intOf i).toNat)
  case atStart => exact ⟨0, by omega, by omega, rfl, rfl, Lib.hid (by simp)⟩
  case round =>
    obtain ⟨k, hk9, hkM, rfl, rfl, hall⟩ := hrel
    have hvl := valB_lt (s.data.toList.take k)
    have hlk : (s.data.toList.take k).length = k := by rw [List.length_take, HS.out]; omega
    rw [hlk] at hvl
    obtain ⟨u, hu⟩ : ∃ u, u = valB (s.data.toList.take k) := ⟨_, rfl⟩
    rw [← hu] at hvl ⊢
    have HU := Lib.hid hu
    have HLK := Lib.hid hlk
    have HV := Lib.hid hvl
    clear hu hlk hvl
    by_cases hlt : k < M
    · have hks : k < s.size := by omega
      have hc256 : s[k].toNat < 256 := s[k].toNat_lt
      have hand : bits .and .u64 (s[k].toNat : Int) 127 = (s[k].toNat : Int) % 128 := by
        have h := bits_mask .u64 64 (by decide) wraps_u64 7 (by decide) (s[k].toNat : Int) (by omega) (by omega)
        simpa using h
      have hsk : s[k] = s.data.toList[k]'(by rw [HS.out]; exact hks) := rfl
      have HSK := Lib.hid hsk
      clear hsk
      have e1 : Hid (s.data.toList.take (k + 1) = s.data.toList.take k ++ [s[k]]) := Lib.hid (by rw [HSK.out]; exact List.take_succ_eq_append_getElem _)
      by_cases h128 : 128 ≤ s[k].toNat
      · by_cases h9 : k = 9
        · subst h9
          have b1 : decide ((1 : Int) < (s[9].toNat : Int)) = true := by simp; omega
          go_wp2
          go_ret3
          refine ⟨0, ⟨#[]⟩, false, rfl, by simp [okN], ?_, Nat.zero_le _, rfl, Below.refl _ _⟩
          rw [if_neg (by simp)]
          exact getV_long (by rw [HS.out]; omega) hall.out (by rw [← HSK.out]; omega)
        · have b9 : ((k : Int) == 9) = false := by simp; omega
          have hor := or_step (c := s[k].toNat) HV.out (mul_small (by omega)) (Nat.lt_of_lt_of_le HV.out (Nat.le_trans (pow_small (k := k) (by omega)) (by decide)))
          have HOR := Lib.hid hor
          clear hor
          go_wp2
          go_round
          case rel =>
            refine ⟨k + 1, by omega, by omega, by go_num, ?_, Lib.hid ?_⟩
            · rw [HOR.out, e1.out, valB_snoc, ← HU.out, HLK.out]
            · intro b hb
              rw [e1.out] at hb
              rcases List.mem_append.1 hb with hb | hb
              · exact hall.out b hb
              · have : b = s[k] := by simpa using hb
                rw [this]; exact h128
          case measure => simp [intOf]; omega
      · have hc128 : s[k].toNat < 128 := by omega
        have hge := getV_end (s := s.data.toList) hk9 (by rw [HS.out]; exact hks) hall.out (by rw [← HSK.out]; exact hc128)
        rw [← HSK.out, valB_snoc, ← HU.out, HLK.out] at hge
        have HGE := Lib.hid hge
        clear hge
        by_cases hbad : k = 9 ∧ 1 < s[k].toNat
        · obtain ⟨rfl, hb1⟩ := hbad
          have b1 : decide ((1 : Int) < (s[9].toNat : Int)) = true := by simp; omega
          go_wp2
          go_ret3
          refine ⟨0, ⟨#[]⟩, false, rfl, by simp [okN], ?_, Nat.zero_le _, rfl, Below.refl _ _⟩
          rw [if_neg (by simp), HGE.out, if_neg (fun h => h.1 (by first | exact ⟨trivial, hb1⟩ | exact ⟨rfl, hb1⟩ | (refine ⟨?_, hb1⟩; trivial)))]
        · have hx : s[k].toNat % 128 * 128 ^ k < 18446744073709551616 := by
            by_cases h9 : k = 9
            · subst h9; exact mul_nine (by omega)
            · exact mul_small (by omega)
          have hu2 : u < 18446744073709551616 := Nat.lt_of_lt_of_le HV.out (by
            by_cases h9 : k = 9
            · subst h9; exact Nat.le_of_lt pow_nine
            · exact Nat.le_trans (pow_small (k := k) (by omega)) (by decide))
          have hor := or_step (c := s[k].toNat) HV.out hx hu2
          have hV := snoc_lt (l := s.data.toList.take k) (c := s[k]) (by rw [HLK.out]; exact hk9) (by rw [HLK.out]; exact hbad) hc128
          rw [valB_snoc, ← HU.out, HLK.out] at hV
          obtain ⟨V, hVV⟩ : ∃ V, V = u + s[k].toNat % 128 * 128 ^ k := ⟨_, rfl⟩
          rw [← hVV] at hor hV HGE
          have hand1 := Lib.u64_and1 (V : Int) (by omega) (by omega)
          have hxu := xor_unzig hV
          obtain ⟨n, hn⟩ : ∃ n, n = unzig V := ⟨_, rfl⟩
          rw [← hn] at hxu HGE
          have HN : Hid (okN n) := Lib.hid (by rw [hn]; exact unzig_ok hV)
          have HBAD := Lib.hid hbad
          clear hVV hn hx hu2 hbad
          have e1k : ((k : Int) + 1) ≤ s.size := by omega
          by_cases h9 : k = 9
          · have b9 : ((k : Int) == 9) = true := by simp; omega
            have b1 : decide ((1 : Int) < (s[k].toNat : Int)) = false := by
              have := HBAD.out
              simp; omega
            have b0 : ((k : Int) == 0) = false := by simp; omega
            have N0 : Hid (¬ k = 0) := Lib.hid (by omega)
            clear h9
            go_wp2
            go_quiet (fail)
            go_wp2
            go_ret3
            refine ⟨n, s.extract (k + 1) s.size, decide (0 < s[k].toNat), rfl, HN.out, ?_, by rw [ByteArray.size_extract]; omega, rfl, ⟨rfl, rfl, rfl, Nat.le_refl _, fun _ _ => rfl⟩⟩
            rw [HGE.out, Lib.extract_to_end]
            by_cases hz : 0 < s[k].toNat
            · rw [if_pos ⟨HBAD.out, .inr hz⟩, if_pos (by simpa using hz)]
            · rw [if_neg (fun h => by rcases h.2 with h | h <;> first | exact hz h | exact N0.out h), if_neg (by simpa using hz)]
          · have b9 : ((k : Int) == 9) = false := by simp; omega
            by_cases h0 : k = 0
            · have b0 : ((k : Int) == 0) = true := by simp; omega
              have H0 := Lib.hid h0
              clear h0 h9
              go_wp2
              go_quiet (fail)
              go_wp2
              go_ret3
              refine ⟨n, s.extract (k + 1) s.size, true, rfl, HN.out, ?_, by rw [ByteArray.size_extract]; omega, rfl, ⟨rfl, rfl, rfl, Nat.le_refl _, fun _ _ => rfl⟩⟩
              rw [HGE.out, Lib.extract_to_end]
              rw [if_pos ⟨HBAD.out, .inl H0.out⟩, if_pos rfl]
            · have b0 : ((k : Int) == 0) = false := by simp; omega
              have N0 := Lib.hid h0
              clear h0 h9
              go_wp2
              go_quiet (fail)
              go_wp2
              go_ret3
              refine ⟨n, s.extract (k + 1) s.size, decide (0 < s[k].toNat), rfl, HN.out, ?_, by rw [ByteArray.size_extract]; omega, rfl, ⟨rfl, rfl, rfl, Nat.le_refl _, fun _ _ => rfl⟩⟩
              rw [HGE.out, Lib.extract_to_end]
              by_cases hz : 0 < s[k].toNat
              · rw [if_pos ⟨HBAD.out, .inr hz⟩, if_pos (by simpa using hz)]
              · rw [if_neg (fun h => by rcases h.2 with h | h <;> first | exact hz h | exact N0.out h), if_neg (by simpa using hz)]
    · go_wp2
      go_ret3
      refine ⟨0, ⟨#[]⟩, false, rfl, by simp [okN], ?_, Nat.zero_le _, rfl, Below.refl _ _⟩
      rw [if_neg (by simp)]
      have hk : k = s.size := by rcases HM.out with h | h <;> omega
      refine getV_short (by rw [HS.out]; omega) (fun b hb => hall.out b ?_)
      rw [hk, List.take_of_length_le (by rw [HS.out]; exact Nat.le_refl _)]
      exact hb
end Go.Proofs.YtgglbjniclkkpaaDoor

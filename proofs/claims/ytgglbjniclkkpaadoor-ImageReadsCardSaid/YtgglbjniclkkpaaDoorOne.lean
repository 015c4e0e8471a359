/-
  The reference's reader: (*ref.taker).one.
-/
import Derived.Test.YtgglbjniclkkpaaDoorSmall
import Derived.Deep.RegionHeld3
namespace Go.Proofs.YtgglbjniclkkpaaDoor
open Go.RowKit
set_option linter.unusedVariables false

theorem sum_step {u c k : Nat} (hu : u < 128 ^ k) (hk : k ≤ 9) : IntKind.u64.wrap ((u : Int) + IntKind.u64.wrap ((c : Int) % 128 * 2 ^ (7 * k))) = (((u + c % 128 * 128 ^ k) % 18446744073709551616 : Nat) : Int) := by
  have e2 : (c : Int) % 128 * 2 ^ (7 * k) = ((c % 128 * 128 ^ k : Nat) : Int) := by
    rw [pow7, Int.natCast_mul]
    rfl
  rw [e2, IntKind.wrap_u64, IntKind.wrap_u64]
  omega
/-- The string of a number is a text's beginning. -/
theorem put_is {s : ByteArray} {l : List UInt8} {k : Nat} : ((⟨l.toArray⟩ : ByteArray) = s.extract 0 k) ↔ l = s.data.toList.take k := by
  have e : (s.extract 0 k).data.toList = s.data.toList.take k := by rw [Lib.extract_data]; simp
  constructor
  · intro h
    rw [← e, ← h]
  · intro h
    have h2 : l = (s.extract 0 k).data.toList := by rw [e, h]
    rw [h2]
theorem keepO {w W W2 : World} {a : Nat} {s : ByteArray} {bad : Bool} (h : W.cell? ⟨a, 0, none⟩ = some (.string s) ∧ W.cell? ⟨a, 1, none⟩ = some (.bool bad) ∧ W.frozen? ⟨a, 0, none⟩ = false ∧ W.frozen? ⟨a, 1, none⟩ = false ∧ Below w.heap.size w W) (ha : a < w.heap.size) (hb : Below W.heap.size W W2) :
    W2.cell? ⟨a, 0, none⟩ = some (.string s) ∧ W2.cell? ⟨a, 1, none⟩ = some (.bool bad) ∧ W2.frozen? ⟨a, 0, none⟩ = false ∧ W2.frozen? ⟨a, 1, none⟩ = false ∧ Below w.heap.size w W2 :=
  ⟨cell_up hb h.1, cell_up hb h.2.1, (hb.frozen (Nat.lt_of_lt_of_le ha h.2.2.2.2.size)).trans h.2.2.1, (hb.frozen (Nat.lt_of_lt_of_le ha h.2.2.2.2.size)).trans h.2.2.2.1, below_up h.2.2.2.2 hb⟩
set_option maxHeartbeats 4000000 in
set_option maxRecDepth 100000 in
theorem one_any (a : Nat) (s : ByteArray) (bad : Bool) (hs : s.size ≤ 1500) (w : World) (h : RdAt w a 96 s bad) : Calls Tryd.prog 77 #[.pointer (some ⟨a, 0, none⟩)] w (NumR 96 a s bad w) := by
  have hsz : s.data.toList.length = s.size := by rw [Array.length_toList]; rfl
  have HS := Lib.hid hsz
  have H := Lib.hid h
  have c0 := h.c0
  have c1 := h.c1
  have f0 := h.f0 0
  have f1 := h.f0 1
  clear hsz h
  go_enter Tryd.func77, Tryd.ntmps77
  go_wp2
  go_loop [3, 4] (fun u i => ∃ k : Nat, k ≤ 10 ∧ k ≤ s.size ∧ i = .int .i64 k ∧ ∃ v : Nat, u = .int .u64 v ∧ Hid (k ≤ 9 → v = valB (s.data.toList.take k) ∧ (∀ b ∈ s.data.toList.take k, 128 ≤ b.toNat)) ∧ Hid (k = 10 → getV s.data.toList = none)) (fun _ i => 10 - (intOf i).toNat)
  case atStart => exact ⟨0, by omega, by omega, rfl, 0, rfl, Lib.hid (fun _ => ⟨by simp [valB], by simp⟩), Lib.hid (fun h => by cases h)⟩
  case round =>
    obtain ⟨k, hk10, hks, rfl, v, rfl, hA, hB⟩ := hrel
    by_cases hlt : k < 10 ∧ k < s.size
    · obtain ⟨hk9, hkz⟩ := hlt
      obtain ⟨hvv, hall⟩ := hA.out (by omega)
      have ALL := Lib.hid hall
      have hc256 : s[k].toNat < 256 := s[k].toNat_lt
      have hlk : (s.data.toList.take k).length = k := by rw [List.length_take, HS.out]; omega
      have hvl := valB_lt (s.data.toList.take k)
      rw [hlk, ← hvv] at hvl
      have HSK : Hid (s[k] = s.data.toList[k]'(by rw [HS.out]; exact hkz)) := Lib.hid rfl
      have e1 : Hid (s.data.toList.take (k + 1) = s.data.toList.take k ++ [s[k]]) := Lib.hid (by rw [HSK.out]; exact List.take_succ_eq_append_getElem _)
      have hsum := sum_step (c := s[k].toNat) hvl (by omega)
      have hVV : (v + s[k].toNat % 128 * 128 ^ k) = valB (s.data.toList.take (k + 1)) := by rw [e1.out, valB_snoc, hlk, ← hvv]
      rw [hVV] at hsum
      have HLK := Lib.hid hlk
      have HVV := Lib.hid hvv
      clear hall hvl hVV hlk hvv
      by_cases h128 : 128 ≤ s[k].toNat
      · have HSUM := Lib.hid hsum
        clear hsum
        go_wp2
        go_round
        case rel =>
          refine ⟨k + 1, by omega, by omega, by go_num, valB (s.data.toList.take (k + 1)) % 18446744073709551616, by rw [HSUM.out], Lib.hid (fun h9 => ⟨?_, ?_⟩), Lib.hid (fun h10 => ?_)⟩
          · have h1 := valB_lt (s.data.toList.take (k + 1))
            have h2 : (s.data.toList.take (k + 1)).length ≤ 9 := by rw [List.length_take]; omega
            have h3 : 128 ^ (s.data.toList.take (k + 1)).length ≤ 128 ^ 9 := Nat.pow_le_pow_right (by decide) h2
            exact Nat.mod_eq_of_lt (Nat.lt_of_lt_of_le h1 (Nat.le_trans h3 (Nat.le_of_lt pow_nine)))
          · intro b hb
            rw [e1.out] at hb
            rcases List.mem_append.1 hb with hb | hb
            · exact ALL.out b hb
            · have : b = s[k] := by simpa using hb
              rw [this]; exact h128
          · have hk : k = 9 := by omega
            subst hk
            exact getV_long (by rw [HS.out]; omega) ALL.out (by rw [← HSK.out]; omega)
        case measure => simp [intOf]; omega
      · have hc128 : s[k].toNat < 128 := by omega
        have hge := getV_end (s := s.data.toList) (i := k) (by omega) (by rw [HS.out]; exact hkz) ALL.out (by rw [← HSK.out]; exact hc128)
        have hpc := put_check ALL.out (c := s[k]) (by rw [HLK.out]; omega) hc128
        rw [← HSK.out, ← e1.out] at hge
        rw [← e1.out, HLK.out] at hpc
        obtain ⟨V, hV⟩ : ∃ V, V = valB (s.data.toList.take (k + 1)) % 18446744073709551616 := ⟨_, rfl⟩
        have hVlt : V < 18446744073709551616 := by rw [hV]; omega
        rw [← hV] at hsum hpc
        have hzz : putV (unzig V) = Lib.uvarint V := by unfold putV; rw [zig_unzig]
        rw [← hzz] at hpc
        have hok := unzig_ok hVlt
        have hpi := put_is (s := s) (l := putV (unzig V)) (k := k + 1)
        rw [hpc] at hpi
        have hEQ : ¬ (k = 9 ∧ 1 < s[k].toNat) ∧ (k = 0 ∨ 0 < s[k].toNat) → unzig (valB (s.data.toList.take (k + 1))) = unzig V := fun h => by
          have := snoc_lt (l := s.data.toList.take k) (c := s[k]) (by rw [HLK.out]; omega) (by rw [HLK.out]; exact h.1) hc128
          rw [← e1.out] at this
          rw [hV, Nat.mod_eq_of_lt this]
        obtain ⟨n, hn⟩ : ∃ n, n = unzig V := ⟨_, rfl⟩
        rw [← hn] at hok hpi hEQ
        have HP := Lib.hid (refPut_any n hok w.drew)
        have hpar : ((V : Int) % 2 == 1) = true ∧ -((V : Int) / 2) - 1 = n ∨ ((V : Int) % 2 == 1) = false ∧ (V : Int) / 2 = n := by
          rw [hn]
          unfold unzig
          by_cases hp : V % 2 = 1
          · left; rw [if_pos hp]; exact ⟨by simp; omega, by omega⟩
          · right; rw [if_neg hp]; exact ⟨by simp; omega, by omega⟩
        have HGE := Lib.hid hge
        have HPI := Lib.hid hpi
        have HEQ := Lib.hid hEQ
        have HOK := Lib.hid hok
        have LP := Lib.hid (putV_len hok)
        have e1k : ((k : Int) + 1) ≤ s.size := by omega
        clear hge hpc hpi hEQ hzz hV hn hok
        have AL := H.out.lt
        have B0 := Lib.hid (Below.refl w.heap.size w)
        obtain ⟨q, hq⟩ : ∃ q : ByteArray, q = ⟨(putV n).toArray⟩ := ⟨_, rfl⟩
        have HPq : Hid (∀ W, Calls Tryd.prog 47 #[.int .i64 n] W fun r w' => r = .returned (.string q) ∧ Below W.heap.size W w') := Lib.hid (fun W => by rw [hq]; exact refPut_any n HOK.out W)
        rw [← hq] at HPI
        clear HP hq
        have s1 : IntKind.i64.wrap ((k : Int) + 1) = (k : Int) + 1 := by rw [IntKind.wrap_i64]; omega
        have s2 : (0 : Int) ≤ (k : Int) + 1 := by omega
        have s3 : ((k : Int) + 1).toNat = k + 1 := by omega
        by_cases hval : ¬ (k = 9 ∧ 1 < s[k].toNat) ∧ (k = 0 ∨ 0 < s[k].toNat)
        · have hqe : q = s.extract 0 (k + 1) := HPI.out.2 hval
          have hbq : (q.toList == (s.extract 0 (k + 1)).toList) = true := by rw [hqe]; exact beq_self_eq_true _
          have VAL := Lib.hid hval
          clear hqe hval
          rcases hpar with ⟨hp, hpn⟩ | ⟨hp, hpn⟩
          all_goals
            go_wp2
            go_region_held3 (fun w' => w'.cell? ⟨a, 0, none⟩ = some (.string s) ∧ w'.cell? ⟨a, 1, none⟩ = some (.bool bad) ∧ w'.frozen? ⟨a, 0, none⟩ = false ∧ w'.frozen? ⟨a, 1, none⟩ = false ∧ Below w.heap.size w w')
              ((first | exact ⟨c0, c1, f0, f1, B0.out.drew⟩ | assumption | exact keepO (by assumption) AL (by assumption)))
              (first | (go_at_call 47; refine (HPq.out _).mono ?_; rintro r w2 ⟨rfl, hbp⟩))
            obtain ⟨d0, d1, g0, g1, hbz⟩ : w2.cell? ⟨a, 0, none⟩ = some (.string s) ∧ w2.cell? ⟨a, 1, none⟩ = some (.bool bad) ∧ w2.frozen? ⟨a, 0, none⟩ = false ∧ w2.frozen? ⟨a, 1, none⟩ = false ∧ Below w.heap.size w w2 := by assumption
            have HBZ := Lib.hid hbz
            clear hbz
            go_wp2
            go_ret
            refine ⟨n, s.extract (k + 1) s.size, bad, rfl, HOK.out, (H.out.up HBZ.out).set0, by rw [ByteArray.size_extract]; omega, grown_set (grown_below _ HBZ.out) _, (fun e => ⟨e, ?_⟩), (fun e => .inl e)⟩
            rw [HGE.out, if_pos VAL.out, HEQ.out VAL.out, Lib.extract_to_end]
        · have hqe : ¬ q = s.extract 0 (k + 1) := fun h => hval (HPI.out.1 h)
          have hbq : (q.toList == (s.extract 0 (k + 1)).toList) = false := by
            rw [beq_eq_false_iff_ne]
            intro h
            rw [ByteArray.toList_eq, ByteArray.toList_eq] at h
            exact hqe (ByteArray.ext (Array.ext' h))
          have VAL := Lib.hid hval
          clear hqe hval
          rcases hpar with ⟨hp, hpn⟩ | ⟨hp, hpn⟩
          all_goals
            go_wp2
            go_region_held3 (fun w' => w'.cell? ⟨a, 0, none⟩ = some (.string s) ∧ w'.cell? ⟨a, 1, none⟩ = some (.bool bad) ∧ w'.frozen? ⟨a, 0, none⟩ = false ∧ w'.frozen? ⟨a, 1, none⟩ = false ∧ Below w.heap.size w w')
              ((first | exact ⟨c0, c1, f0, f1, B0.out.drew⟩ | assumption | exact keepO (by assumption) AL (by assumption)))
              (first | (go_at_call 47; refine (HPq.out _).mono ?_; rintro r w2 ⟨rfl, hbp⟩))
            obtain ⟨d0, d1, g0, g1, hbz⟩ : w2.cell? ⟨a, 0, none⟩ = some (.string s) ∧ w2.cell? ⟨a, 1, none⟩ = some (.bool bad) ∧ w2.frozen? ⟨a, 0, none⟩ = false ∧ w2.frozen? ⟨a, 1, none⟩ = false ∧ Below w.heap.size w w2 := by assumption
            have HBZ := Lib.hid hbz
            clear hbz
            go_wp2
            go_ret
            exact ⟨0, ⟨#[]⟩, true, rfl, by simp [okN], (H.out.up HBZ.out).set1.set0, Nat.zero_le _, grown_set (grown_set (grown_below _ HBZ.out) _) _, (fun e => by cases e), fun _ => .inr (by rw [HGE.out, if_neg VAL.out])⟩
    · have hnone : getV s.data.toList = none := by
        by_cases h10 : k = 10
        · exact hB.out h10
        · have hk : k = s.size := by omega
          obtain ⟨_, hall⟩ := hA.out (by omega)
          refine getV_short (by rw [HS.out]; omega) (fun b hb => hall b ?_)
          rw [hk, List.take_of_length_le (by rw [HS.out]; exact Nat.le_refl _)]
          exact hb
      have HNO := Lib.hid hnone
      clear hnone
      go_wp2
      all_goals
        go_ret
        exact ⟨0, ⟨#[]⟩, true, rfl, by simp [okN], H.out.set1.set0, Nat.zero_le _, grown_set (grown_set (grown_refl _ _) _) _, (fun e => by cases e), fun _ => .inr HNO.out⟩
end Go.Proofs.YtgglbjniclkkpaaDoor

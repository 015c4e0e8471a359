/-
  The reference's reader: small numbers, lists.
-/
import Derived.Test.YtgglbjniclkkpaaDoorOne
import Derived.Test.YtgglbjniclkkpaaDoorRList
import Derived.Test.YtgglbjniclkkpaaDoorNarrow
namespace Go.Proofs.YtgglbjniclkkpaaDoor
open Go.RowKit
set_option linter.unusedVariables false

set_option maxHeartbeats 2000000 in
set_option maxRecDepth 100000 in
theorem tsmall_any (a : Nat) (s : ByteArray) (bad : Bool) (hs : s.size ≤ 1500) (w : World) (h : RdAt w a 96 s bad) : Calls Tryd.prog 55 #[.pointer (some ⟨a, 0, none⟩)] w (SmallR 96 a s bad w) := by
  have HN := Lib.hid (one_any a s bad hs w h)
  clear h
  go_enter Tryd.func55, Tryd.ntmps55
  go_wp2_with (go_at_call 77; refine HN.out.mono ?_; rintro r w1 ⟨n, t, bad', rfl, hn, hr, ht, hg, hf, htr⟩; have R := Lib.hid hr; have G := Lib.hid hg; have F := Lib.hid hf; have TR := Lib.hid htr; have c1 := R.out.c1; have f1 := R.out.f0 1; clear hr hg hf htr hn)
  all_goals (first | (go_ret; exact small_in (by omega) (by omega) R.out ht G.out F.out TR.out) | (go_ret; exact small_out (by omega) R.out ht G.out F.out TR.out))
theorem restS_start {s r : List UInt8} {k : Nat} (h : smallV s = some (k, r)) : listS s = restV manySV [] k r := by
  unfold listS restV
  rw [h]
  simp only [List.nil_append]
  rcases manySV k r with _ | ⟨l, r'⟩ <;> rfl
theorem restS_none {s : List UInt8} (h : smallV s = none) : listS s = none := by unfold listS; rw [h]
theorem restS_step {xs : List Int} {k : Nat} {t t' : List UInt8} {n : Nat} (h : smallV t = some (n, t')) : restV manySV xs (k + 1) t = restV manySV (xs ++ [(n : Int)]) k t' := by
  unfold restV
  rw [manySV, h]
  simp only []
  rcases manySV k t' with _ | ⟨l, r'⟩ <;> simp
theorem restS_stop {xs : List Int} {k : Nat} {t : List UInt8} (h : smallV t = none) : restV manySV xs (k + 1) t = none := by
  unfold restV
  rw [manySV, h]
set_option maxHeartbeats 4000000 in
set_option maxRecDepth 100000 in
theorem tlist_all (a : Nat) (s : ByteArray) (bad : Bool) (hs : s.size ≤ 1500) (w : World) (h : RdAt w a 96 s bad) : Calls Tryd.prog 56 #[.pointer (some ⟨a, 0, none⟩), .bool false] w (ListOut listR 2 96 a s bad w) := by
  obtain ⟨i0, hi0, hz0, hz1, hz2⟩ := info_parts infoI64'
  have hal := h.lt
  have HS := Lib.hid (tsmall_any a s bad hs w h)
  clear h
  go_enter Tryd.func56, Tryd.ntmps56
  go_wp2_with (go_at_call 55; refine HS.out.mono ?_; rintro r w1 ⟨K, t1, bad1, rfl, hK, hr1, ht1, hg1, hf1, htr1⟩)
  have R1 := Lib.hid hr1
  have G1 := Lib.hid hg1
  have F1 : Hid (bad1 = false → bad = false ∧ listR s.data.toList = restV manyV [] K t1.data.toList) := Lib.hid (fun e => ⟨(hf1 e).1, restV_start (hf1 e).2⟩)
  have T1 : Hid (bad1 = true → bad = true ∨ listR s.data.toList = none) := Lib.hid (fun e => (htr1 e).imp id restV_none)
  clear hr1 hg1 hf1 htr1 HS
  go_loopw [5, 7] (fun v i wr => ∃ (k : Nat) (xs : List Int) (t : ByteArray) (b : Bool), k ≤ K ∧ i = .int .i64 k ∧ wr.ownsRow w.heap.size 2 1 v k (xs.map (Value.int .i64)) ∧ Hid (∀ x ∈ xs, okN x) ∧ RdAt wr a 96 t b ∧ t.size ≤ s.size ∧ Hid (w.grownBy wr (some a)) ∧
    Hid (b = false → bad = false ∧ listR s.data.toList = restV manyV xs (K - k) t.data.toList) ∧ Hid (b = true → bad = true ∨ listR s.data.toList = none)) (fun _ i _ => K - (intOf i).toNat)
  case atStart => exact ⟨0, [], t1, bad1, Nat.zero_le _, rfl, World.ownsRow_nil _ _ _ _, Lib.hid (by simp), R1.out, ht1, G1, F1, T1⟩
  case round =>
    obtain ⟨k, xs, t, b, hk, rfl, hown, hok, hr, ht, hg, hf, htr⟩ := hrel
    have c1 := hr.c1
    have R := Lib.hid hr
    clear hr
    by_cases hlt : k < K
    · cases b
      · have HN := Lib.hid (one_any a t false (Nat.le_trans ht hs) wr R.out)
        go_wp2_with (first | (go_at_call 77; (with_reducible refine HN.out.mono ?_); rintro r w2 ⟨n, t2, b2, rfl, hn, hr2, ht2, hg2, hf2, htr2⟩; have hown2 := own_keep hown hal hg2) | (at_builtin; refine wpList_append_own _ rfl _ _ 22 rfl w.heap.size 2 i0 (.int .i64 0) 1 8 Tryd.underlying22 hi0 hz0 hz1 hz2 rfl (by decide) _ _ _ rfl (hown2.alloc _) ⟨w2.heap.size, 0, none⟩ 1 1 [Value.int .i64 n] rfl rfl ?c1 ?c2 ?c3 ?c4 ?c5 ?_))
        case c1 =>
          intro j u hj
          match j, hj with
          | 0, hj => simp at hj; subst hj; simp [Addr.add]
        case c2 => intro u hu; simp at hu; subst hu; rfl
        case c3 => unfold maxLen; omega
        case c4 => omega
        case c5 => have h1 := hg.out.size; have h2 := hg2.size; simp; omega
        intro v' w3 hown' hgrow _
        have G3 := Lib.hid (grown_own (grown_alloc' (grown_trans hg.out hg2) _) hgrow (fun g e => (hown2.lt g e).1))
        have R3 := Lib.hid (RdAt.own (hr2.up ((Below.refl _ _).alloc (Nat.le_refl _) _)) hgrow (fun g e => by have := (hown2.lt g e).1; omega))
        have F2 := Lib.hid hf2
        have T2 := Lib.hid htr2
        have N2 : Hid (okN (n : Int)) := Lib.hid hn
        clear hg2 hr2 hf2 htr2 hown HN hn hgrow hown2
        go_wp2
        go_roundw
        case rel =>
          refine ⟨k + 1, xs ++ [(n : Int)], t2, b2, by omega, by go_num, by rw [List.map_append]; exact hown', Lib.hid ?_, R3.out, Nat.le_trans ht2 ht, G3, Lib.hid (fun e => ⟨(hf.out (by trivial)).1, ?_⟩), Lib.hid (fun e => ?_)⟩
          · intro x hx
            rcases List.mem_append.1 hx with hx | hx
            · exact hok.out x hx
            · have : x = (n : Int) := by simpa using hx
              rw [this]; exact N2.out
          · rw [(hf.out (by trivial)).2, show K - k = (K - (k + 1)) + 1 by omega]
            exact restV_step (F2.out e).2
          · rcases T2.out e with h | h
            · cases h
            · right
              rw [(hf.out (by trivial)).2, show K - k = (K - (k + 1)) + 1 by omega]
              exact restV_stop h
        case measure => simp [intOf]; omega
      · obtain ⟨A, c, rfl⟩ := own_slice' hown
        go_wp2
        go_ret
        exact ⟨A, k, c, xs, t, true, rfl, hown, by omega, hok.out, R.out, ht, hg.out, (fun e => by cases e), fun _ => htr.out (by trivial)⟩
    · obtain ⟨A, c, rfl⟩ := own_slice' hown
      have : k = K := by omega
      subst this
      go_wp2
      go_ret
      refine ⟨A, k, c, xs, t, b, rfl, hown, hK, hok.out, R.out, ht, hg.out, (fun e => ⟨(hf.out e).1, ?_⟩), htr.out⟩
      rw [(hf.out e).2, Nat.sub_self]
      exact restV_end manyV (fun s => rfl) _ _
set_option maxHeartbeats 4000000 in
set_option maxRecDepth 100000 in
theorem tlist_small (a : Nat) (s : ByteArray) (bad : Bool) (hs : s.size ≤ 1500) (w : World) (h : RdAt w a 96 s bad) : Calls Tryd.prog 56 #[.pointer (some ⟨a, 0, none⟩), .bool true] w (ListOut listS 2 96 a s bad w) := by
  obtain ⟨i0, hi0, hz0, hz1, hz2⟩ := info_parts infoI64'
  have hal := h.lt
  have HS := Lib.hid (tsmall_any a s bad hs w h)
  clear h
  go_enter Tryd.func56, Tryd.ntmps56
  go_wp2_with (go_at_call 55; refine HS.out.mono ?_; rintro r w1 ⟨K, t1, bad1, rfl, hK, hr1, ht1, hg1, hf1, htr1⟩)
  have R1 := Lib.hid hr1
  have G1 := Lib.hid hg1
  have F1 : Hid (bad1 = false → bad = false ∧ listS s.data.toList = restV manySV [] K t1.data.toList) := Lib.hid (fun e => ⟨(hf1 e).1, restS_start (hf1 e).2⟩)
  have T1 : Hid (bad1 = true → bad = true ∨ listS s.data.toList = none) := Lib.hid (fun e => (htr1 e).imp id restS_none)
  clear hr1 hg1 hf1 htr1 HS
  go_loopw [5, 7] (fun v i wr => ∃ (k : Nat) (xs : List Int) (t : ByteArray) (b : Bool), k ≤ K ∧ i = .int .i64 k ∧ wr.ownsRow w.heap.size 2 1 v k (xs.map (Value.int .i64)) ∧ Hid (∀ x ∈ xs, okN x) ∧ RdAt wr a 96 t b ∧ t.size ≤ s.size ∧ Hid (w.grownBy wr (some a)) ∧
    Hid (b = false → bad = false ∧ listS s.data.toList = restV manySV xs (K - k) t.data.toList) ∧ Hid (b = true → bad = true ∨ listS s.data.toList = none)) (fun _ i _ => K - (intOf i).toNat)
  case atStart => exact ⟨0, [], t1, bad1, Nat.zero_le _, rfl, World.ownsRow_nil _ _ _ _, Lib.hid (by simp), R1.out, ht1, G1, F1, T1⟩
  case round =>
    obtain ⟨k, xs, t, b, hk, rfl, hown, hok, hr, ht, hg, hf, htr⟩ := hrel
    have c1 := hr.c1
    have R := Lib.hid hr
    clear hr
    by_cases hlt : k < K
    · cases b
      · have HN := Lib.hid (tsmall_any a t false (Nat.le_trans ht hs) wr R.out)
        go_wp2_with (first | (go_at_call 55; (with_reducible refine HN.out.mono ?_); rintro r w2 ⟨n, t2, b2, rfl, hn, hr2, ht2, hg2, hf2, htr2⟩; have hown2 := own_keep hown hal hg2) | (at_builtin; refine wpList_append_own _ rfl _ _ 22 rfl w.heap.size 2 i0 (.int .i64 0) 1 8 Tryd.underlying22 hi0 hz0 hz1 hz2 rfl (by decide) _ _ _ rfl (hown2.alloc _) ⟨w2.heap.size, 0, none⟩ 1 1 [Value.int .i64 n] rfl rfl ?c1 ?c2 ?c3 ?c4 ?c5 ?_))
        case c1 =>
          intro j u hj
          match j, hj with
          | 0, hj => simp at hj; subst hj; simp [Addr.add]
        case c2 => intro u hu; simp at hu; subst hu; rfl
        case c3 => unfold maxLen; omega
        case c4 => omega
        case c5 => have h1 := hg.out.size; have h2 := hg2.size; simp; omega
        intro v' w3 hown' hgrow _
        have G3 := Lib.hid (grown_own (grown_alloc' (grown_trans hg.out hg2) _) hgrow (fun g e => (hown2.lt g e).1))
        have R3 := Lib.hid (RdAt.own (hr2.up ((Below.refl _ _).alloc (Nat.le_refl _) _)) hgrow (fun g e => by have := (hown2.lt g e).1; omega))
        have F2 := Lib.hid hf2
        have T2 := Lib.hid htr2
        have N2 : Hid (okN (n : Int)) := Lib.hid (okN_nat (by omega))
        clear hg2 hr2 hf2 htr2 hown HN hn hgrow hown2
        go_wp2
        go_roundw
        case rel =>
          refine ⟨k + 1, xs ++ [(n : Int)], t2, b2, by omega, by go_num, by rw [List.map_append]; exact hown', Lib.hid ?_, R3.out, Nat.le_trans ht2 ht, G3, Lib.hid (fun e => ⟨(hf.out (by trivial)).1, ?_⟩), Lib.hid (fun e => ?_)⟩
          · intro x hx
            rcases List.mem_append.1 hx with hx | hx
            · exact hok.out x hx
            · have : x = (n : Int) := by simpa using hx
              rw [this]; exact N2.out
          · rw [(hf.out (by trivial)).2, show K - k = (K - (k + 1)) + 1 by omega]
            exact restS_step (F2.out e).2
          · rcases T2.out e with h | h
            · cases h
            · right
              rw [(hf.out (by trivial)).2, show K - k = (K - (k + 1)) + 1 by omega]
              exact restS_stop h
        case measure => simp [intOf]; omega
      · obtain ⟨A, c, rfl⟩ := own_slice' hown
        go_wp2
        go_ret
        exact ⟨A, k, c, xs, t, true, rfl, hown, by omega, hok.out, R.out, ht, hg.out, (fun e => by cases e), fun _ => htr.out (by trivial)⟩
    · obtain ⟨A, c, rfl⟩ := own_slice' hown
      have : k = K := by omega
      subst this
      go_wp2
      go_ret
      refine ⟨A, k, c, xs, t, b, rfl, hown, hK, hok.out, R.out, ht, hg.out, (fun e => ⟨(hf.out e).1, ?_⟩), htr.out⟩
      rw [(hf.out e).2, Nat.sub_self]
      exact restV_end manySV (fun s => rfl) _ _
set_option maxHeartbeats 2000000 in
set_option maxRecDepth 100000 in
/-- What lies in a row of numbers lies in a row of ints. -/
theorem ints_any (A : Option Addr) (n c : Nat) (xs : List Int) (w : World) (hi : IntsAt w A n xs) (hn : n ≤ 4000) :
    Calls Tryd.prog 57 #[.slice A n c] w fun r w' => ∃ A' l' c', r = .returned (.slice A' l' c') ∧ w'.ownsRow w.heap.size 3 1 (.slice A' l' c') n (xs.map (Value.int .i64)) ∧ Below w.heap.size w w' := by
  obtain ⟨i0, hi0, hz0, hz1, hz2⟩ := info_parts infoI
  have hxl := hi.1
  have HI := Lib.hid hi
  clear hi
  go_enter Tryd.func57, Tryd.ntmps57
  go_wp2
  go_loopw [3, 8] (fun v i wr => ∃ k : Nat, k ≤ n ∧ i = .int .i64 k ∧ wr.ownsRow w.heap.size 3 1 v k ((xs.take k).map (Value.int .i64)) ∧ Below w.heap.size w wr) (fun _ i _ => n - (intOf i).toNat)
  case atStart => exact ⟨0, Nat.zero_le _, rfl, by simpa using World.ownsRow_nil _ _ _ _, Below.refl _ _⟩
  case round =>
    obtain ⟨k, hk, rfl, hown, hb⟩ := hrel
    by_cases hlt : k < n
    · obtain ⟨b, o, rfl, hc⟩ := (HI.out.up hb).2 (by omega)
      have hck := hc k hlt
      have ht : (xs.take (k + 1)).map (Value.int .i64) = (xs.take k).map (Value.int .i64) ++ [Value.int .i64 (xs.getD k 0)] := by
        rw [List.take_succ_eq_append_getElem (by omega), List.map_append, List.getD_eq_getElem?_getD, List.getElem?_eq_getElem (by omega)]
        rfl
      obtain ⟨x, hx⟩ : ∃ x, x = xs.getD k 0 := ⟨_, rfl⟩
      obtain ⟨ys, hys⟩ : ∃ ys, ys = (xs.take k).map (Value.int .i64) := ⟨_, rfl⟩
      rw [← hx] at hck ht
      rw [← hys] at ht hown
      have HT := Lib.hid ht
      clear ht hc hx hys
      go_wp2_with (at_builtin; refine wpList_append_own _ rfl _ _ 23 rfl w.heap.size 3 i0 (.int .i64 0) 1 8 Tryd.underlying23 hi0 hz0 hz1 hz2 rfl (by decide) _ _ _ rfl (hown.alloc _) ⟨wr.heap.size, 0, none⟩ 1 1 [Value.int .i64 x] rfl rfl ?c1 ?c2 ?c3 ?c4 ?c5 ?_)
      case c1 =>
        intro j u hj
        match j, hj with
        | 0, hj => simp at hj; subst hj; simp [Addr.add]
      case c2 => intro u hu; simp at hu; subst hu; rfl
      case c3 => unfold maxLen; omega
      case c4 => omega
      case c5 => have := hb.size; simp; omega
      intro v' w1 hown' hgrow _
      have hb1 : Below w.heap.size w w1 := (hb.alloc (by have := hb.size; omega) _).grown hgrow (by have := hb.size; simp; omega) (fun k hk => (hown.lt k hk).1)
      have HB1 := Lib.hid hb1
      clear hb1 hgrow
      go_wp2
      go_roundw
      case rel => exact ⟨k + 1, by omega, by go_num, by rw [HT.out]; exact hown', HB1.out⟩
      case measure => simp [intOf]; omega
    · have : k = n := by omega
      subst this
      rw [List.take_of_length_le (by omega)] at hown
      obtain ⟨A', c', rfl⟩ := own_slice hown
      go_wp2
      go_ret
      exact ⟨A', _, c', rfl, hown, hb⟩
end Go.Proofs.YtgglbjniclkkpaaDoor

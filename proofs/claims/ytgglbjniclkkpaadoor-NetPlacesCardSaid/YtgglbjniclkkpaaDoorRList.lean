/-
  The readers' lists: (*image.reader).list.
-/
import Derived.Test.YtgglbjniclkkpaaDoorSmall
import Derived.OwnWalk
namespace Go.Proofs.YtgglbjniclkkpaaDoor
open Go.RowKit
set_option linter.unusedVariables false

/-- A list is read: of numbers (F = listR), or of small ones (F = listS). -/
def ListOut (F : List UInt8 → Option (List Int × List UInt8)) (e : TypeId) (T : TypeId) (a : Nat) (s : ByteArray) (bad : Bool) (w : World) (r : Ending) (w' : World) : Prop :=
  ∃ (A : Option Addr) (n c : Nat) (xs : List Int) (t : ByteArray) (bad' : Bool), r = .returned (.slice A n c) ∧ w'.ownsRow w.heap.size e 1 (.slice A n c) n (xs.map (Value.int .i64)) ∧ n ≤ 4000 ∧ (∀ x ∈ xs, okN x) ∧ RdAt w' a T t bad' ∧ t.size ≤ s.size ∧ w.grownBy w' (some a) ∧
    (bad' = false → bad = false ∧ F s.data.toList = some (xs, t.data.toList)) ∧ (bad' = true → bad = true ∨ F s.data.toList = none)
/-- What is still to come of a list. -/
def restV (M : Nat → List UInt8 → Option (List Int × List UInt8)) (xs : List Int) (k : Nat) (t : List UInt8) : Option (List Int × List UInt8) := match M k t with | some (l, r) => some (xs ++ l, r) | none => none
theorem restV_start {s r : List UInt8} {k : Nat} (h : smallV s = some (k, r)) : listR s = restV manyV [] k r := by
  unfold listR restV
  rw [h]
  simp only [List.nil_append]
  rcases manyV k r with _ | ⟨l, r'⟩ <;> rfl
theorem restV_none {s : List UInt8} (h : smallV s = none) : listR s = none := by unfold listR; rw [h]
theorem restV_end (M : Nat → List UInt8 → Option (List Int × List UInt8)) (h0 : ∀ s, M 0 s = some ([], s)) (xs : List Int) (t : List UInt8) : restV M xs 0 t = some (xs, t) := by unfold restV; rw [h0]; simp
theorem restV_step {xs : List Int} {k : Nat} {t t' : List UInt8} {n : Int} (h : getV t = some (n, t')) : restV manyV xs (k + 1) t = restV manyV (xs ++ [n]) k t' := by
  unfold restV
  rw [manyV, h]
  simp only []
  rcases manyV k t' with _ | ⟨l, r'⟩ <;> simp
theorem restV_stop {xs : List Int} {k : Nat} {t : List UInt8} (h : getV t = none) : restV manyV xs (k + 1) t = none := by
  unfold restV
  rw [manyV, h]
theorem grown_own {w wr w1 : World} {a : Nat} {row : Option Nat} (h : w.grownBy wr (some a)) (hg : wr.grownBy w1 row) (hr : ∀ g, row = some g → w.heap.size ≤ g) : w.grownBy w1 (some a) :=
  ⟨hg.os.trans h.os, hg.tape.trans h.tape, hg.output.trans h.output, Nat.le_trans h.size hg.size, fun k hk hne =>
    (hg.block k (Nat.lt_of_lt_of_le hk h.size) (fun e => by have := hr k e.symm; omega)).trans (h.block k hk hne)⟩
theorem grown_alloc' {w wr : World} {a : Nat} (h : w.grownBy wr (some a)) (o : Obj) : w.grownBy (wr.alloc o) (some a) := grown_own h (World.grownBy_alloc wr o none) (fun g e => by cases e)
theorem RdAt.own {w w1 : World} {a : Nat} {T : TypeId} {s : ByteArray} {bad : Bool} {row : Option Nat} (h : RdAt w a T s bad) (hg : w.grownBy w1 row) (hr : ∀ g, row = some g → g ≠ a) : RdAt w1 a T s bad :=
  (hg.block a h.lt (fun e => hr a e.symm rfl)).trans h
theorem infoI64' : (Tryd.prog.info? 2).map (fun i => (i.zero, i.size, i.bytes)) = some (some (.int .i64 0), 1, 8) := by kernel_rfl
theorem own_slice' {w : World} {B n : Nat} {e : TypeId} {v : Value} {xs : List Value} (h : w.ownsRow B e 1 v n xs) : ∃ A c, v = .slice A n c := by
  rcases h.2 with ⟨rfl, rfl⟩ | ⟨g, cap, cur, rfl, _⟩
  · exact ⟨_, _, rfl⟩
  · exact ⟨_, _, rfl⟩
theorem own_keep {w w' : World} {B n a : Nat} {e : TypeId} {v : Value} {xs : List Value} (h : w.ownsRow B e 1 v n xs) (ha : a < B) (hg : w.grownBy w' (some a)) : w'.ownsRow B e 1 v n xs :=
  h.kept hg (.inr (fun e => by have := (h.lt a e).1; omega))
set_option maxHeartbeats 4000000 in
set_option maxRecDepth 100000 in
theorem list_read (a : Nat) (s : ByteArray) (bad : Bool) (hs : s.size ≤ 1500) (w : World) (h : RdAt w a 102 s bad) : Calls Tryd.prog 59 #[.pointer (some ⟨a, 0, none⟩)] w (ListOut listR 2 102 a s bad w) := by
  obtain ⟨i0, hi0, hz0, hz1, hz2⟩ := info_parts infoI64'
  have hal := h.lt
  have HS := Lib.hid (small_any a s bad hs w h)
  clear h
  go_enter Tryd.func59, Tryd.ntmps59
  go_wp2_with (go_at_call 58; refine HS.out.mono ?_; rintro r w1 ⟨K, t1, bad1, rfl, hK, hr1, ht1, hg1, hf1, htr1⟩)
  have R1 := Lib.hid hr1
  have G1 := Lib.hid hg1
  have F1 : Hid (bad1 = false → bad = false ∧ listR s.data.toList = restV manyV [] K t1.data.toList) := Lib.hid (fun e => ⟨(hf1 e).1, restV_start (hf1 e).2⟩)
  have T1 : Hid (bad1 = true → bad = true ∨ listR s.data.toList = none) := Lib.hid (fun e => (htr1 e).imp id restV_none)
  clear hr1 hg1 hf1 htr1 HS
  go_loopw [3, 6] (fun v i wr => ∃ (k : Nat) (xs : List Int) (t : ByteArray) (b : Bool), k ≤ K ∧ i = .int .i64 k ∧ wr.ownsRow w.heap.size 2 1 v k (xs.map (Value.int .i64)) ∧ Hid (∀ x ∈ xs, okN x) ∧ RdAt wr a 102 t b ∧ t.size ≤ s.size ∧ Hid (w.grownBy wr (some a)) ∧
    Hid (b = false → bad = false ∧ listR s.data.toList = restV manyV xs (K - k) t.data.toList) ∧ Hid (b = true → bad = true ∨ listR s.data.toList = none)) (fun _ i _ => K - (intOf i).toNat)
  case atStart => exact ⟨0, [], t1, bad1, Nat.zero_le _, rfl, World.ownsRow_nil _ _ _ _, Lib.hid (by simp), R1.out, ht1, G1, F1, T1⟩
  case round =>
    obtain ⟨k, xs, t, b, hk, rfl, hown, hok, hr, ht, hg, hf, htr⟩ := hrel
    have c1 := hr.c1
    have R := Lib.hid hr
    clear hr
    by_cases hlt : k < K
    · cases b
      · have HN := Lib.hid (number_any a t false (Nat.le_trans ht hs) wr R.out)
        go_wp2_with (first | (go_at_call 78; (with_reducible refine HN.out.mono ?_); rintro r w2 ⟨n, t2, b2, rfl, hn, hr2, ht2, hg2, hf2, htr2⟩; have hown2 := own_keep hown hal hg2) | (at_builtin; refine wpList_append_own _ rfl _ _ 22 rfl w.heap.size 2 i0 (.int .i64 0) 1 8 Tryd.underlying22 hi0 hz0 hz1 hz2 rfl (by decide) _ _ _ rfl (hown2.alloc _) ⟨w2.heap.size, 0, none⟩ 1 1 [Value.int .i64 n] rfl rfl ?c1 ?c2 ?c3 ?c4 ?c5 ?_))
        case c1 =>
          intro j u hj
          match j, hj with
          | 0, hj => simp at hj; subst hj; simp [Addr.add]
        case c2 => intro u hu; simp at hu; subst hu; rfl
        case c3 => unfold maxLen; omega
        case c4 => omega
        case c5 => have h1 := hg.out.size; have h2 := hg2.size; simp; omega
        intro v' w3 hown' hgrow _
        have G3 := Lib.hid (grown_own (grown_alloc' (grown_trans hg.out hg2) _) hgrow (fun g e => (hown2.lt g e).1))
        have R3 := Lib.hid (RdAt.own (hr2.up ((Below.refl _ _).alloc (Nat.le_refl _) _)) hgrow (fun g e => by have := (hown2.lt g e).1; omega))
        have F2 := Lib.hid hf2
        have T2 := Lib.hid htr2
        have N2 := Lib.hid hn
        clear hg2 hr2 hf2 htr2 hown HN hn hgrow hown2
        go_wp2
        go_roundw
        case rel =>
          refine ⟨k + 1, xs ++ [n], t2, b2, by omega, by go_num, by rw [List.map_append]; exact hown', Lib.hid ?_, R3.out, Nat.le_trans ht2 ht, G3, Lib.hid (fun e => ⟨(hf.out (by trivial)).1, ?_⟩), Lib.hid (fun e => ?_)⟩
          · intro x hx
            rcases List.mem_append.1 hx with hx | hx
            · exact hok.out x hx
            · have : x = n := by simpa using hx
              rw [this]; exact N2.out
          · rw [(hf.out (by trivial)).2, show K - k = (K - (k + 1)) + 1 by omega]
            exact restV_step (F2.out e).2
          · rcases T2.out e with h | h
            · cases h
            · right
              rw [(hf.out (by trivial)).2, show K - k = (K - (k + 1)) + 1 by omega]
              exact restV_stop h
        case measure => simp [intOf]; omega
      · go_wp2
        go_ret
        exact ⟨none, 0, 0, [], t, true, rfl, World.ownsRow_nil _ _ _ _, by omega, by simp, R.out, ht, hg.out, (fun e => by cases e), fun _ => htr.out (by trivial)⟩
    · obtain ⟨A, c, rfl⟩ := own_slice' hown
      have : k = K := by omega
      subst this
      go_wp2
      go_ret
      refine ⟨A, k, c, xs, t, b, rfl, hown, hK, hok.out, R.out, ht, hg.out, (fun e => ⟨(hf.out e).1, ?_⟩), htr.out⟩
      rw [(hf.out e).2, Nat.sub_self]
      exact restV_end manyV (fun s => rfl) _ _
end Go.Proofs.YtgglbjniclkkpaaDoor

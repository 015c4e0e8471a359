/-
  The readers' narrow lists: (*image.reader).narrow.
-/
import Derived.Test.YtgglbjniclkkpaaDoorRList
import Derived.Test.YtgglbjniclkkpaaDoorImgList
import Derived.WalkLawsBesides
namespace Go.Proofs.YtgglbjniclkkpaaDoor
open Go.RowKit
set_option linter.unusedVariables false

theorem listS_eq (s : List UInt8) : listS s = match listR s with | some (l, r) => if l.all inB = true then some (l, r) else none | none => none := by
  unfold listS listR
  rcases smallV s with _ | ⟨k, r⟩
  · rfl
  · exact manySV_eq k r
/-- Cut to 0 and 4000. -/
def clampI (x : Int) : Int := max (min x 4000) 0
theorem clamp_in {x : Int} (h : inB x = true) : clampI x = x := by
  unfold inB at h
  unfold clampI
  have := of_decide_eq_true h
  omega
theorem clamp_all : ∀ {xs : List Int}, xs.all inB = true → xs.map clampI = xs
  | [], _ => rfl
  | x :: r, h => by
    rw [List.all_cons, Bool.and_eq_true] at h
    rw [List.map_cons, clamp_in h.1, clamp_all h.2]
theorem clamp_ok (x : Int) : okN (clampI x) := by unfold clampI okN; omega
theorem own_apart {w : World} {B B' n n' : Nat} {e e' : TypeId} {v v' : Value} {xs xs' : List Value} (h : w.ownsRow B e 1 v n xs) (h' : w.ownsRow B' e' 1 v' n' xs') (he : e ≠ e') : v.ownBlock = none ∨ v.ownBlock ≠ v'.ownBlock := by
  rcases hv : v.ownBlock with _ | g
  · exact .inl rfl
  · right
    intro hh
    obtain ⟨c, fz, hc⟩ := own_kind h g hv
    obtain ⟨c', fz', hc'⟩ := own_kind h' g hh.symm
    rw [hc] at hc'
    cases hc'
    exact he rfl
theorem take_snocD {xs : List Int} {n : Nat} (hl : xs.length = n) {k : Nat} (hk : k < n) : xs.take (k + 1) = xs.take k ++ [xs.getD k 0] := by
  have hk' : k < xs.length := by omega
  rw [List.take_succ_eq_append_getElem hk', List.getD_eq_getElem?_getD, List.getElem?_eq_getElem hk']
  rfl
theorem ownsRow_setCell_other' {w : World} {B a n : Nat} {e : TypeId} {v u : Value} {o : Nat} {xs : List Value} (h : w.ownsRow B e 1 v n xs) (ha : a < B) : (w.setCell ⟨a, o, none⟩ u).ownsRow B e 1 v n xs := ownsRow_setCell_below h ha u
theorem new_one (W : World) (g : Nat) (hg : g = W.heap.size) (v : Value) (e : TypeId) : ∀ j u, [v][j]? = some u → (W.alloc (.cells #[v] e)).cell? ((⟨g, 0, none⟩ : Addr).add j) = some u := by
  subst hg
  intro j u hj
  match j, hj with
  | 0, hj => simp at hj; subst hj; simp [Addr.add]
theorem one_int (x : Int) : ∀ u ∈ [Value.int .i64 x], u.oneCell' = true := by intro u hu; simp at hu; subst hu; rfl
theorem infoI : (Tryd.prog.info? 3).map (fun i => (i.zero, i.size, i.bytes)) = some (some (.int .i64 0), 1, 8) := by kernel_rfl
set_option maxHeartbeats 4000000 in
set_option maxRecDepth 100000 in
theorem narrow_read (a : Nat) (s : ByteArray) (bad : Bool) (hs : s.size ≤ 1500) (w : World) (h : RdAt w a 102 s bad) : Calls Tryd.prog 60 #[.pointer (some ⟨a, 0, none⟩)] w (ListOut listS 3 102 a s bad w) := by
  obtain ⟨i0, hi0, hz0, hz1, hz2⟩ := info_parts infoI
  have hal := h.lt
  have HS := Lib.hid (list_read a s bad hs w h)
  clear h
  go_enter Tryd.func60, Tryd.ntmps60
  go_wp2_with (go_at_call 59; refine HS.out.mono ?_; rintro r w1 ⟨A, n, c, xs, t, bad1, rfl, hrow, hn, hok, hr1, ht1, hg1, hf1, htr1⟩)
  have R1 := Lib.hid hr1
  have G1 := Lib.hid hg1
  have F1 := Lib.hid hf1
  have T1 := Lib.hid htr1
  have ROW := Lib.hid hrow
  have hxl : Hid (xs.length = n) := Lib.hid (by have := hrow.1; simpa using this)
  clear hr1 hg1 hf1 htr1 HS hrow hok
  go_loopw [3, 9] (fun v i wr => ∃ (k : Nat) (b : Bool), k ≤ n ∧ i = .int .i64 k ∧ wr.ownsRow w.heap.size 3 1 v k (((xs.take k).map clampI).map (Value.int .i64)) ∧ RdAt wr a 102 t b ∧ Hid (w.grownBy wr (some a)) ∧ Hid (b = (bad1 || !(xs.take k).all inB)) ∧ Hid (wr.ownsRow w.heap.size 2 1 (.slice A n c) n (xs.map (Value.int .i64)))) (fun _ i _ => n - (intOf i).toNat)
  case atStart => exact ⟨0, bad1, Nat.zero_le _, rfl, by simpa using World.ownsRow_nil _ _ _ _, R1.out, G1, Lib.hid (by simp), ROW⟩
  case round =>
    obtain ⟨k, b, hk, rfl, hown, hr, hg, hbb, hrow⟩ := hrel
    have c0 := hr.c0
    have c1 := hr.c1
    have f1 := hr.f0 1
    have R := Lib.hid hr
    clear hr
    by_cases hlt : k < n
    · obtain ⟨bb, o, rfl, hc⟩ := (own_ints hrow.out).2.1.2 (by omega)
      have hck := hc k hlt
      have ht := take_snocD hxl.out hlt
      obtain ⟨x, hx⟩ : ∃ x, x = xs.getD k 0 := ⟨_, rfl⟩
      rw [← hx] at hck ht
      have HT := Lib.hid ht
      obtain ⟨ys, hys⟩ : ∃ ys, ys = (((xs.take k).map clampI).map (Value.int .i64)) := ⟨_, rfl⟩
      rw [← hys] at hown
      have HYS := Lib.hid hys
      clear ht hc hx hys
      have hown2 : Hid (∀ b', (wr.setCell ⟨a, 1, none⟩ (.bool b')).ownsRow w.heap.size 3 1 _ k ys) := Lib.hid (fun b' => ownsRow_setCell_below hown hal _)
      have hsz : w.heap.size ≤ wr.heap.size := hg.out.size
      have hx3 : x < 0 ∨ 4000 < x ∨ (0 ≤ x ∧ x ≤ 4000) := by omega
      have HOWN := Lib.hid hown
      clear hown
      cases b
      all_goals
        rcases hx3 with hx3 | hx3 | hx3
        all_goals
          go_wp2_with (at_builtin; refine wpList_append_own _ rfl _ _ 23 rfl w.heap.size 3 i0 (.int .i64 0) 1 8 Tryd.underlying23 hi0 hz0 hz1 hz2 rfl (by decide) _ _ _ rfl ((hown2.out _).alloc _) ⟨wr.heap.size, 0, none⟩ 1 1 [Value.int .i64 (max (min x 4000) 0)] rfl rfl (new_one _ _ (by simp) _ _) (one_int _) (by unfold maxLen; omega) (by omega) (by simp; omega) ?_; intro v' w3 hown' hgrow hnil; have G3 := Lib.hid (grown_own (grown_alloc' (grown_set hg.out _) _) hgrow (fun g e => (HOWN.out.lt g e).1)); have R3 := Lib.hid (RdAt.own (R.out.set1.up ((Below.refl _ _).alloc (Nat.le_refl _) _)) hgrow (fun g e => by have := (HOWN.out.lt g e).1; omega)); have W3 := Lib.hid (((ownsRow_setCell_other' hrow.out hal).alloc _).kept hgrow (own_apart hrow.out HOWN.out (by decide))); clear hgrow hnil)
          go_wp2
          go_roundw
          case rel =>
            refine ⟨k + 1, _, by omega, by go_num, ?_, R3.out, G3, Lib.hid ?_, W3⟩
            · have hr := hown'
              rw [HYS.out] at hr
              rw [HT.out, List.map_append, List.map_append]
              exact hr
            · have hb0 := hbb.out
              have hin : inB x = decide (0 ≤ x ∧ x ≤ 4000) := rfl
              rw [HT.out, List.all_append]
              simp only [List.all_cons, List.all_nil, Bool.and_true, hin]
              first | (rw [decide_eq_false (show ¬ (0 ≤ x ∧ x ≤ 4000) by omega)]; simp; done) | (rw [decide_eq_true (show 0 ≤ x ∧ x ≤ 4000 by omega)]; simpa using hb0) | (rw [decide_eq_true (show 0 ≤ x ∧ x ≤ 4000 by omega), Bool.and_true, ← hb0]; exact decide_eq_false (by omega)) | (rw [decide_eq_false (show ¬ (0 ≤ x ∧ x ≤ 4000) by omega), Bool.and_false, Bool.not_false, Bool.or_true]; exact decide_eq_true (by omega)) | (rw [decide_eq_true (show 0 ≤ x ∧ x ≤ 4000 by omega), Bool.and_true, ← hb0, decide_eq_false (show ¬ x < 0 by omega), decide_eq_false (show ¬ 4000 < x by omega)]; rfl)
          case measure => simp [intOf]; omega
    · obtain ⟨A', c', rfl⟩ := own_slice' hown
      have : k = n := by omega
      subst this
      rw [List.take_of_length_le (by rw [hxl.out]; exact Nat.le_refl _)] at hown hbb
      go_wp2
      go_ret
      cases b
      · have hb0 := hbb.out
        have h1 : bad1 = false := by
          cases hb1 : bad1
          · rfl
          · rw [hb1] at hb0; exact absurd hb0 (by simp)
        have h2 : xs.all inB = true := by
          rw [h1, Bool.false_or] at hb0
          cases hx : xs.all inB
          · rw [hx] at hb0; cases hb0
          · rfl
        rw [clamp_all h2] at hown
        refine ⟨A', k, c', xs, t, false, rfl, hown, hn, ?_, R.out, ht1, hg.out, (fun e => ⟨(F1.out h1).1, ?_⟩), (fun e => by cases e)⟩
        · intro x hx
          have := List.all_eq_true.1 h2 x hx
          unfold inB at this
          have := of_decide_eq_true this
          unfold okN; omega
        · rw [listS_eq, (F1.out h1).2]
          simp only []
          rw [if_pos h2]
      · refine ⟨A', k, c', xs.map clampI, t, true, rfl, hown, hn, ?_, R.out, ht1, hg.out, (fun e => by cases e), fun _ => ?_⟩
        · intro x hx
          obtain ⟨y, _, rfl⟩ := List.mem_map.1 hx
          exact clamp_ok y
        · cases hb1 : bad1
          · right
            have hb0 := hbb.out
            rw [hb1] at hb0
            have h2 : xs.all inB = false := by
              rw [Bool.false_or] at hb0
              cases hx : xs.all inB
              · rfl
              · rw [hx] at hb0; cases hb0
            rw [listS_eq, (F1.out hb1).2]
            simp only []
            rw [if_neg (by rw [h2]; simp)]
          · rcases T1.out hb1 with h | h
            · exact .inl h
            · exact .inr (by rw [listS_eq, h])
end Go.Proofs.YtgglbjniclkkpaaDoor

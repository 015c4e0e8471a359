/-
  The keep's few and pick; what places are called otherwise.
-/
import Derived.Test.YtgglbjniclkkpaaDoorFew
import Derived.Test.YtgglbjniclkkpaaDoorTick
import Derived.Deep.AppendLies
import Derived.Deep.RegionHeld3
namespace Go.Proofs.YtgglbjniclkkpaaDoor
open Go.RowKit
set_option linter.unusedVariables false

set_option maxRecDepth 100000 in
set_option maxHeartbeats 2000000 in
theorem fewK_any (B : Option Addr) (n c : Nat) (R : List (List Int)) (w : World) (h : RowsAt w B n R) : Calls Tryd.prog 27 #[.slice B n c] w fun r w' => r = .returned (.bool (fewB R)) ∧ Below w.heap.size w w' := by
  have hl := h.1
  by_cases h40 : n ≤ 40
  · have hd : decide ((40 : Int) < (n : Int)) = false := by simp; omega
    have h40' : (n : Int) ≤ 40 := by omega
    have H := Lib.hid h
    clear h
    go_enter Tryd.func27, Tryd.ntmps27
    go_wp2_with fail
    go_loopw [3] (fun i wr => ∃ k : Nat, k ≤ n ∧ i = .int .i64 k ∧ Hid ((R.drop k).all (fun xs => decide (xs.length ≤ 30)) = R.all fun xs => decide (xs.length ≤ 30)) ∧ Below w.heap.size w wr) (fun i _ => n - (intOf i).toNat)
    case atStart => exact ⟨0, Nat.zero_le _, rfl, Lib.hid (by simp), Below.refl _ _⟩
    case round =>
      obtain ⟨k, hk, rfl, F, hb⟩ := hrel
      by_cases hlt : k < n
      · obtain ⟨b, o, rfl, hc⟩ := (H.out.up hb).2 (by omega)
        obtain ⟨A, l, c', xs, h1, h2, h3, _⟩ := hc k hlt
        have hll := h3.1
        have hdr : R.drop k = xs :: R.drop (k + 1) := by
          obtain ⟨hl', e⟩ := List.getElem?_eq_some_iff.1 h1
          rw [List.drop_eq_getElem_cons hl', e]
        have HB := Lib.hid hb
        clear hc h1 h3 hb
        by_cases h30 : l ≤ 30
        · have h30' : (l : Int) ≤ 30 := by omega
          have F2 : Hid ((R.drop (k + 1)).all (fun xs => decide (xs.length ≤ 30)) = R.all fun xs => decide (xs.length ≤ 30)) := Lib.hid (by
            have h := F.out
            rw [hdr, List.all_cons, hll, decide_eq_true h30, Bool.true_and] at h
            exact h)
          clear F hdr hll
          go_wp2_with fail
          go_roundw
          case rel => exact ⟨k + 1, by omega, by go_num, F2, HB.out⟩
          case measure => simp [intOf]; omega
        · have h30' : (30 : Int) < (l : Int) := by omega
          have F2 : Hid (fewB R = false) := Lib.hid (by
            unfold fewB
            rw [← F.out, hdr, List.all_cons, hll, decide_eq_false h30, Bool.false_and, Bool.and_false])
          clear F hdr hll
          go_wp2_with fail
          go_ret
          exact ⟨by rw [F2.out]; rfl, HB.out⟩
      · have F2 : Hid (fewB R = true) := Lib.hid (by
          unfold fewB
          rw [← F.out, List.drop_of_length_le (by omega), hl, decide_eq_true h40]
          rfl)
        clear F
        go_wp2_with fail
        go_ret
        exact ⟨by rw [F2.out]; rfl, hb⟩
  · have hd : (40 : Int) < (n : Int) := by omega
    have F2 : Hid (fewB R = false) := Lib.hid (by unfold fewB; rw [hl, decide_eq_false h40, Bool.false_and])
    clear h
    go_enter Tryd.func27, Tryd.ntmps27
    go_wp2_with fail
    go_ret
    exact ⟨by rw [F2.out]; rfl, Below.refl _ _⟩
set_option maxRecDepth 100000 in
theorem pick_kept (a : Int) (n : Nat) (hn : 0 < n) (hn2 : n ≤ 4000) (w : World) : Calls Tryd.prog 29 #[.int .i64 a, .int .i64 n] w fun r w' => ∃ k : Nat, k < n ∧ r = .returned (.int .i64 k) ∧ w = w' := by
  go_enter Tryd.func29, Tryd.ntmps29
  go_wp2
  obtain ⟨u, hu⟩ : ∃ u : Nat, IntKind.u64.wrap a = (u : Int) := Int.eq_ofNat_of_zero_le (by rw [IntKind.wrap_u64]; omega)
  have hm : u % n < n := Nat.mod_lt _ hn
  have e : wrap64 ((IntKind.u64.wrap a).tmod (n : Int)) = ((u % n : Nat) : Int) := by
    rw [hu, show ((u : Int)).tmod (n : Int) = ((u % n : Nat) : Int) from rfl]
    unfold wrap64
    omega
  rw [e]
  go_ret
  exact ⟨u % n, hm, rfl, rfl⟩
/-- What a place is called otherwise. -/
theorem to_kept (p by' P g5 g4 : Nat) (hP : P ≤ 4000) (hp : p < P) (hb : by' < P) (w : World) (h5 : w.cell? ⟨g5, 0, none⟩ = some (.int .i64 by')) (h4 : w.cell? ⟨g4, 0, none⟩ = some (.int .i64 P)) :
    Calls Tryd.prog 30 #[.int .i64 p, .pointer (some ⟨g5, 0, none⟩), .pointer (some ⟨g4, 0, none⟩)] w fun r w' => r = .returned (.int .i64 (((p + by') % P : Nat) : Int)) ∧ w = w' := by
  have hm : (p + by') % P < P := Nat.mod_lt _ (by omega)
  go_enter Tryd.func30, Tryd.ntmps30
  go_wp2
  rw [show ((p : Int) + (by' : Int)) % (P : Int) = (((p + by') % P : Nat) : Int) by simp]
  go_ret
  exact ⟨rfl, rfl⟩
/-- A place's other name. -/
def toV (P by' : Nat) (p : Int) : Int := (((p.toNat + by') % P : Nat) : Int)
theorem infoI3 : (Tryd.prog.info? 3).map (fun i => (i.zero, i.size, i.bytes)) = some (some (.int .i64 0), 1, 8) := by kernel_rfl
theorem pickB {w W : World} {p q r s : Prop} (h : Below w.heap.size w W ∧ p ∧ q ∧ r ∧ s) : Below w.heap.size w W := h.1
theorem pick5 {w W : World} {p q r s : Prop} (h : Below w.heap.size w W ∧ p ∧ q ∧ r ∧ s) : p := h.2.1
theorem pick4 {w W : World} {p q r s : Prop} (h : Below w.heap.size w W ∧ p ∧ q ∧ r ∧ s) : q := h.2.2.1
set_option maxHeartbeats 4000000 in
set_option maxRecDepth 100000 in
theorem all_kept (P by' g5 g4 g11 : Nat) (hP : P ≤ 4000) (hb : by' < P) (A : Option Addr) (n c : Nat) (xs : List Int) (w : World) (hx : IntsAt w A n xs) (hn : n ≤ 4000) (hin : ∀ x ∈ xs, 0 ≤ x ∧ x < P) (h5 : w.cell? ⟨g5, 0, none⟩ = some (.int .i64 by')) (h4 : w.cell? ⟨g4, 0, none⟩ = some (.int .i64 P)) (h11 : w.cell? ⟨g11, 0, none⟩ = some (.func (.func 30) #[] #[.pointer (some ⟨g5, 0, none⟩), .pointer (some ⟨g4, 0, none⟩)])) :
    Calls Tryd.prog 31 #[.slice A n c, .pointer (some ⟨g11, 0, none⟩)] w fun r w' => ∃ A' c', r = .returned (.slice A' n c') ∧ w'.ownsRow w.heap.size 3 1 (.slice A' n c') n ((xs.map (toV P by')).map (Value.int .i64)) ∧ Below w.heap.size w w' := by
  obtain ⟨i0, hi0, hz0, hz1, hz2⟩ := info_parts infoI3
  have hxl := hx.1
  have HX := Lib.hid hx
  have HI := Lib.hid hin
  have H5 := Lib.hid h5
  have H4 := Lib.hid h4
  have H11 := Lib.hid h11
  clear hx hin h5 h4 h11
  go_enter Tryd.func31, Tryd.ntmps31
  go_wp2_with fail
  go_loopw [4, 5] (fun v i wr => ∃ k : Nat, k ≤ n ∧ i = .int .i64 k ∧ wr.ownsRow w.heap.size 3 1 v k (((xs.take k).map (toV P by')).map (Value.int .i64)) ∧ Below w.heap.size w wr) (fun _ i _ => n - (intOf i).toNat)
  case atStart => exact ⟨0, Nat.zero_le _, rfl, by simpa using World.ownsRow_nil _ _ _ _, Below.refl _ _⟩
  case round =>
    obtain ⟨k, hk, rfl, hown, hbr⟩ := hrel
    by_cases hlt : k < n
    · obtain ⟨bb, o, rfl, hc⟩ := (HX.out.up hbr).2 (by omega)
      have hck := hc k hlt
      have hmm := HI.out _ (getD_mem (xs := xs) (k := k) (by omega))
      obtain ⟨q, hq⟩ := Int.eq_ofNat_of_zero_le hmm.1
      have hq2 : q < P := by have := hmm.2; omega
      have ht := take_snocD (xs := xs) (n := n) hxl hlt
      rw [hq] at hck ht
      have HT : Hid (((xs.take (k + 1)).map (toV P by')).map (Value.int .i64) = ((xs.take k).map (toV P by')).map (Value.int .i64) ++ [Value.int .i64 (((q + by') % P : Nat) : Int)]) := Lib.hid (by rw [ht, List.map_append, List.map_append]; rfl)
      obtain ⟨ys, hys⟩ : ∃ ys, ys = ((xs.take k).map (toV P by')).map (Value.int .i64) := ⟨_, rfl⟩
      rw [← hys] at hown HT
      obtain ⟨tq, htq⟩ : ∃ tq : Nat, tq = (q + by') % P := ⟨_, rfl⟩
      rw [← htq] at HT
      have HO := Lib.hid hown
      have BR := Lib.hid hbr
      have k5 := cell_up hbr H5.out
      have k4 := cell_up hbr H4.out
      have k11 := cell_up hbr H11.out
      have i0' : (0 : Int) ≤ (k : Int) := by omega
      have i1' : (k : Int) < (n : Int) := by omega
      have HCALL : Hid (∀ W : World, W.cell? ⟨g5, 0, none⟩ = some (.int .i64 by') → W.cell? ⟨g4, 0, none⟩ = some (.int .i64 P) → Calls Tryd.prog 30 #[.int .i64 q, .pointer (some ⟨g5, 0, none⟩), .pointer (some ⟨g4, 0, none⟩)] W fun e w' => e = .returned (.int .i64 (tq : Int)) ∧ w' = W) := Lib.hid fun W a b => (to_kept q by' P g5 g4 hP hq2 hb W a b).mono fun e w' h => ⟨by rw [htq]; exact h.1, h.2.symm⟩
      have HCK : Hid (w.cell? ⟨bb, o + k, none⟩ = some (.int .i64 q)) := Lib.hid (by
        obtain ⟨b', o', e, h⟩ := HX.out.2 (by omega)
        cases e
        have h2 := h k hlt
        rw [hq] at h2
        exact h2)
      clear hc hmm hq ht hys hown hbr htq
      go_wp2_with fail
      have MK : Hid (∀ W, Below w.heap.size w W → Below w.heap.size w W ∧ W.cell? ⟨g5, 0, none⟩ = some (.int .i64 by') ∧ W.cell? ⟨g4, 0, none⟩ = some (.int .i64 P) ∧ W.cell? ⟨g11, 0, none⟩ = some (.func (.func 30) #[] #[.pointer (some ⟨g5, 0, none⟩), .pointer (some ⟨g4, 0, none⟩)]) ∧ W.cell? ⟨bb, o + k, none⟩ = some (.int .i64 q)) := Lib.hid fun W h => ⟨h, cell_up h H5.out, cell_up h H4.out, cell_up h H11.out, cell_up h HCK.out⟩
      go_region_held3 (fun W => Below w.heap.size w W ∧ W.cell? ⟨g5, 0, none⟩ = some (.int .i64 by') ∧ W.cell? ⟨g4, 0, none⟩ = some (.int .i64 P) ∧ W.cell? ⟨g11, 0, none⟩ = some (.func (.func 30) #[] #[.pointer (some ⟨g5, 0, none⟩), .pointer (some ⟨g4, 0, none⟩)]) ∧ W.cell? ⟨bb, o + k, none⟩ = some (.int .i64 q))
        ((first | exact MK.out _ BR.out.drew | assumption | exact MK.out _ ((pickB (by assumption)).alloc (pickB (by assumption)).size _) | exact MK.out _ (below_own (pickB (by assumption)) hgrow (fun x e => (own_lt' HO.out x e).1)) | exact MK.out _ (below_own ((BR.out.alloc BR.out.size _).drew) hgrow (fun x e => (own_lt' HO.out x e).1))))
        (first | (go_at_call 30; refine (HCALL.out _ (pick5 (by assumption)) (pick4 (by assumption))).mono ?_; rintro r w2 ⟨rfl, rfl⟩) | (refine step_append_lies _ (by rfl) _ _ _ (by rfl) w.heap.size 3 i0 _ 1 8 Tryd.underlying23 hi0 hz0 hz1 hz2 rfl (by omega) _ k ys (by rfl) ((HO.out.alloc _).drew) ⟨wr.heap.size, 0, none⟩ 1 1 [.int .i64 (tq : Int)] (by rfl) (by rfl) (World.news_of_block (cs := #[.int .i64 (tq : Int)]) (t := 3) (fr := (0, 0)) (heap_alloc_new wr _)) (by simp [Value.oneCell']) (by omega) (by unfold maxLen; omega) (by omega) (by have := BR.out.size; simp; omega) (wr.heap.size + 1) (by simp) ?_; intro gg cap w1 hown1 hgrow hat hlt1))
      all_goals
        have BX := Lib.hid (pickB (by assumption) : Below w.heap.size w w1)
        have OX := Lib.hid hown1
        clear hgrow hown1 hat
        go_wp2_with fail
        go_roundw
        case rel => exact ⟨k + 1, by omega, by go_num, by rw [HT.out]; exact OX.out, BX.out⟩
        case measure => simp [intOf]; omega
    · have : k = n := by omega
      subst this
      rw [List.take_of_length_le (by omega)] at hown
      obtain ⟨A', c', rfl⟩ := own_slice hown
      go_wp2_with fail
      go_ret
      exact ⟨A', c', rfl, hown, hbr⟩
end Go.Proofs.YtgglbjniclkkpaaDoor

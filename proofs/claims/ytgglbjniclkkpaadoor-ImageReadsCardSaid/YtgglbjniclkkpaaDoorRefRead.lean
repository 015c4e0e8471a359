/-
  ref.ReadImage: code read from bytes.
-/
import Derived.Test.YtgglbjniclkkpaaDoorImgRead
import Derived.Test.YtgglbjniclkkpaaDoorRefCheckL
import Derived.Test.YtgglbjniclkkpaaDoorTList
import Derived.RegionTactic
namespace Go.Proofs.YtgglbjniclkkpaaDoor
open Go.RowKit
set_option linter.unusedVariables false

/-- What the reference hands back. -/
def RefOut (w : World) (an : (Int × Int) × NetP) (r : Ending) (w' : World) : Prop :=
  ∃ (P : Int) (A1 A2 A3 A4 A5 A6 : Option Addr) (n1 c1 n2 c2 n3 c3 n4 c4 n5 c5 n6 c6 : Nat), r = .returned (.tuple #[.agg #[.int .i64 P, .slice A1 n1 c1, .slice A2 n2 c2, .slice A3 n3 c3, .slice A4 n4 c4, .slice A5 n5 c5, .slice A6 n6 c6], .agg #[.int .i64 an.1.1, .int .i64 an.1.2]]) ∧
    NetAtL w' P A1 A2 A3 A4 A5 A6 n1 c1 n2 c2 n3 c3 n4 c4 n5 c5 n6 c6 an.2 ∧ Below w.heap.size w w'
theorem steps_fine {P m : Int} : ∀ {l : List Stp} {i : Nat}, (stepsV P m l i).1 = 0 → (stepsV P m l i).2 = -1
  | [], i, _ => rfl
  | s :: r, i, h => by
    unfold stepsV at *
    split at h
    · rename_i h0; rw [if_pos h0]; exact steps_fine h
    · rename_i h0; exact absurd h h0
theorem judge_fineL {N : NetP} (h : (judgeV N).1 = 0) : (judgeV N).2 = -1 := by
  unfold judgeV at *
  split at h
  · cases h
  split at h
  · cases h
  split at h
  · cases h
  split at h
  · cases h
  rename_i a b c d
  rw [if_neg a, if_neg b, if_neg c, if_neg d]
  exact steps_fine h
/-- strings.HasPrefix, at the head. -/
theorem prefix_any (s : ByteArray) (w : World) : Calls Tryd.prog 54 #[.string s, .string ⟨#[67, 76, 80, 49]⟩] w fun r w' => r = .returned (.bool (headB s.data.toList)) ∧ Below w.heap.size w w' := by
  go_enter Tryd.func54, Tryd.ntmps54
  go_wp2_with fail
  refine (Calls.mono (R := fun r w' => r = .returned (.bool (headB s.data.toList)) ∧ Below w.heap.size w w') ?_ ?_)
  · by_cases h4 : 4 ≤ s.size
    · have hz : (4 : Int) ≤ s.size := by omega
      by_cases hx : s.extract 0 4 = ⟨#[67, 76, 80, 49]⟩
      · have hh := head_is.2 ⟨h4, hx⟩
        rw [hh]
        clear hh
        go_enter Tryd.func76, Tryd.ntmps76
        go_wp2
        go_ret
        exact ⟨rfl, Below.refl _ _⟩
      · have hh : headB s.data.toList = false := by
          cases h : headB s.data.toList
          · rfl
          · exact absurd (head_is.1 h).2 hx
        rw [hh]
        clear hh
        go_enter Tryd.func76, Tryd.ntmps76
        go_wp2
        go_ret
        exact ⟨ret_bool (by simp; rw [ByteArray.toList_eq]; exact fun h => hx (ByteArray.ext (Array.toList_inj.1 h))), Below.refl _ _⟩
    · have hz : (s.size : Int) < 4 := by omega
      have hh : headB s.data.toList = false := by
        cases h : headB s.data.toList
        · rfl
        · exact absurd (head_is.1 h).1 h4
      rw [hh]
      clear hh
      go_enter Tryd.func76, Tryd.ntmps76
      go_wp2
      go_ret
      exact ⟨ret_bool (by simp; try omega), Below.refl _ _⟩
  · rintro r w1 ⟨rfl, hb⟩
    go_wp2
    go_ret
    exact ⟨rfl, hb⟩
theorem two_cells {w : World} {g : Nat} {c0 c1 : Value} {T : TypeId} (h : w.heap[g]? = some (.cells #[c0, c1] T (0, 0))) : w.cell? ⟨g, 0, none⟩ = some c0 ∧ w.cell? ⟨g, 1, none⟩ = some c1 := by
  refine ⟨?_, ?_⟩ <;> simp [World.cell?, h]
/-- The state at the start. -/
theorem RdS.of_ref {w w1 : World} {Z F cs : Array Value} {T : TypeId} {t : ByteArray} (tt : T ≠ 26 ∧ T ≠ 2 ∧ T ≠ 3 ∧ T ≠ 31) (hb : Below ((w.alloc (.cells Z 26)).alloc (.cells F 38)).heap.size ((w.alloc (.cells Z 26)).alloc (.cells F 38)) w1) :
    RdS w ((w1.alloc (.cells #[.string t, .bool false] T)).alloc (.cells cs 26)) w1.heap.size T t false [(w.heap.size, Z, 26), (w.heap.size + 1, F, 38)] (w1.heap.size + 1) cs [] (.slice none 0 0) 0 [] := by
  have hs : w.heap.size + 2 ≤ w1.heap.size := by have := hb.size; simp at this; omega
  have h0 := (((Below.refl w.heap.size w).alloc (Nat.le_refl _) (.cells Z 26)).alloc (by simp) (.cells F 38))
  have h1 : Below w.heap.size w w1 := h0.trans (hb.mono h0.size)
  have g1 := grown_below none hb
  have e0 := grown_blk g1 (heap_alloc2_old w (.cells Z 26) (.cells F 38)) (by simp)
  have e1 := grown_blk g1 (heap_alloc2_new w (.cells Z 26) (.cells F 38)) (by simp)
  refine ⟨(h1.alloc (by omega) _).alloc (by simp; omega) _, by omega, Nat.lt_add_one _, tt, ?_, fun q hq => ?_, ?_, (fun q hq => by cases hq), World.ownsRow_nil _ _ _ _⟩
  · unfold RdAt; exact heap_alloc2_old w1 _ _
  · rcases List.mem_cons.1 hq with rfl | hq
    · exact ⟨((heap_alloc_old _ _ (by simp; omega)).trans (heap_alloc_old w1 _ (by omega))).trans e0, by show w.heap.size < w1.heap.size; omega, .inl rfl⟩
    · have := List.mem_singleton.1 hq
      subst this
      exact ⟨((heap_alloc_old _ _ (by simp; omega)).trans (heap_alloc_old w1 _ (by omega))).trans e1, by show w.heap.size + 1 < w1.heap.size; omega, .inr rfl⟩
  · exact heap_alloc2_new w1 _ _
/-- Both results are written. -/
def W7 (w : World) (z : Nat) (v0 v1 v2 v3 v4 v5 v6 : Value) : World := (((((((w.setCell ⟨z, 0, none⟩ v0).setCell ⟨z, 1, none⟩ v1).setCell ⟨z, 2, none⟩ v2).setCell ⟨z, 3, none⟩ v3).setCell ⟨z, 4, none⟩ v4).setCell ⟨z, 5, none⟩ v5).setCell ⟨z, 6, none⟩ v6)
def W2 (w : World) (z : Nat) (v0 v1 : Value) : World := ((w.setCell ⟨z, 0, none⟩ v0).setCell ⟨z, 1, none⟩ v1)
theorem w2_grown (w : World) (z : Nat) (v0 v1 : Value) : w.grownBy (W2 w z v0 v1) (some z) := grown_set (grown_set (grown_refl _ _) _) _
theorem w7_grown (w : World) (z : Nat) (v0 v1 v2 v3 v4 v5 v6 : Value) : w.grownBy (W7 w z v0 v1 v2 v3 v4 v5 v6) (some z) := sets_grown _ _ _ _ _ _ _ _ _
section
variable {w wr : World} {a z : Nat} {T : TypeId} {t : ByteArray} {b : Bool} {RB : List (Nat × Array Value × TypeId)} {g : Nat} {cs ZC FC : Array Value} {L : List RowD} {cv : Value} {k : Nat} {xs : List Value}
theorem RdS.end1 (h : RdS w wr a T t b RB g cs L cv k xs) (hz : wr.heap[z]? = some (.cells ZC 26 (0, 0))) (hf : wr.heap[z + 1]? = some (.cells FC 38 (0, 0))) (ha : z + 1 < a) (hw : w.heap.size ≤ z) (v0 v1 v2 v3 v4 v5 v6 u0 u1 : Value) : RdS w (W2 (W7 wr z v0 v1 v2 v3 v4 v5 v6) (z + 1) u0 u1) a T t b [] g cs L cv k xs :=
  (h.out hz (.inl rfl) (by omega) hw (w7_grown wr z v0 v1 v2 v3 v4 v5 v6)).out (grown_blk (w7_grown wr z v0 v1 v2 v3 v4 v5 v6) hf (by simp)) (.inr rfl) ha (by omega) (w2_grown _ _ _ _)
theorem RdS.end2 (h : RdS w wr a T t b RB g cs L cv k xs) (hz : wr.heap[z]? = some (.cells ZC 26 (0, 0))) (hf : wr.heap[z + 1]? = some (.cells FC 38 (0, 0))) (ha : z + 1 < a) (hw : w.heap.size ≤ z) (v0 v1 v2 v3 v4 v5 v6 u0 u1 : Value) : RdS w (W7 (W2 wr (z + 1) u0 u1) z v0 v1 v2 v3 v4 v5 v6) a T t b [] g cs L cv k xs :=
  (h.out hf (.inr rfl) ha (by omega) (w2_grown wr (z + 1) u0 u1)).out (grown_blk (w2_grown wr (z + 1) u0 u1) hz (by simp)) (.inl rfl) (by omega) hw (w7_grown _ _ _ _ _ _ _ _ _)
end
set_option maxHeartbeats 8000000 in
set_option maxRecDepth 100000 in
theorem refRead_any (s : ByteArray) (hs : s.size ≤ 1500) (w : World) (hgl : FineAt w) (hh : headB s.data.toList = true) : Calls Tryd.prog 18 #[.string s] w (RefOut w (ansV (readV s.data.toList))) := by
  obtain ⟨i0, hi0, hz0, hz1, hz2⟩ := info_parts infoStp
  have h4 := (head_is.1 hh).1
  have hlen : (s.extract 4 s.size).size ≤ 1500 := by simp; omega
  have HGL := Lib.hid hgl
  clear hgl
  obtain ⟨t0, ht0⟩ : ∃ t, t = s.extract 4 s.size := ⟨_, rfl⟩
  rw [← ht0] at hlen
  have T0 := Lib.hid ht0
  go_enter Tryd.func18, Tryd.ntmps18
  go_wp2_with fail
  refine (prefix_any s _).mono ?_
  rintro r w1 ⟨rfl, hb1⟩
  obtain ⟨RB, hRB⟩ : ∃ RB : List (Nat × Array Value × TypeId), RB = [(w.heap.size, #[.int .i64 0, .slice none 0 0, .slice none 0 0, .slice none 0 0, .slice none 0 0, .slice none 0 0, .slice none 0 0], 26), (w.heap.size + 1, #[.int .i64 0, .int .i64 0], 38)] := ⟨_, rfl⟩
  have S0 := Lib.hid (RdS.of_ref (T := 96) (t := t0) (cs := #[.int .i64 0, .slice none 0 0, .slice none 0 0, .slice none 0 0, .slice none 0 0, .slice none 0 0, .slice none 0 0]) (by decide) hb1)
  rw [← hRB] at S0
  have HRB := Lib.hid hRB
  clear hb1 hRB
  go_upto_region 5 with fail
  rw [← T0.out]
  obtain ⟨a, ha⟩ : ∃ a, a = w1.heap.size := ⟨_, rfl⟩
  obtain ⟨g, hg⟩ : ∃ g, g = w1.heap.size + 1 := ⟨_, rfl⟩
  obtain ⟨W0, hW0⟩ : ∃ W, W = (w1.alloc (.cells #[.string t0, .bool false] 96)).alloc (.cells #[.int .i64 0, .slice none 0 0, .slice none 0 0, .slice none 0 0, .slice none 0 0, .slice none 0 0, .slice none 0 0] 26) := ⟨_, rfl⟩
  rw [← hg, ← ha, ← hW0] at S0 ⊢
  clear ha hg hW0
  go_wp2_with fail
  refine (tsmall_any a t0 false (by omega) _ S0.out.rd).mono ?_
  rintro r w2 ⟨P, t1, b1, rfl, hP, hr1, ht1, hg1, hf1, htr1⟩
  have S1 := Lib.hid (S0.out.read hr1 hg1)
  have F1 : Hid (Sofar b1 (imageR t0.data.toList) (k1 P t1.data.toList)) := Lib.hid (sofarSmall (sofar_start _) hf1 htr1)
  clear hr1 hg1 hf1 htr1 S0
  obtain ⟨d0, d1, d2, d3, d4, d5, d6⟩ := net_cells S1.out.net
  have fz := blk_free S1.out.net
  go_upto_region 6 with fail
  obtain ⟨W1, hW⟩ : ∃ W, W = (w2.setCell ⟨g, 0, none⟩ (.int .i64 P)) := ⟨_, rfl⟩
  have S1' : Hid (RdS w W1 a 96 t1 b1 RB g #[.int .i64 P, .slice none 0 0, .slice none 0 0, .slice none 0 0, .slice none 0 0, .slice none 0 0, .slice none 0 0] [] (.slice none 0 0) 0 []) := by
    rw [hW]
    exact Lib.hid (S1.out.set 0 (.int .i64 P))
  rw [← hW]
  clear hW d0 d1 d2 d3 d4 d5 d6 fz S1
  go_wp2_with fail
  refine (tlist_all a t1 b1 (by omega) _ S1'.out.rd).mono ?_
  rintro r w3 ⟨B1, n1, c1, x1, t2, b2, rfl, ho2, hn1, hok2, hr2, ht2, hg2, hf2, htr2⟩
  have S2 : Hid (RdS w w3 a 96 t2 b2 RB g #[.int .i64 P, .slice none 0 0, .slice none 0 0, .slice none 0 0, .slice none 0 0, .slice none 0 0, .slice none 0 0] [⟨2, .slice B1 n1 c1, n1, x1.map (Value.int .i64)⟩] (.slice none 0 0) 0 []) := Lib.hid ((S1'.out.read hr2 hg2).row ho2 S1'.out.below.size (.inl rfl))
  have F2 := Lib.hid (sofar1 F1.out hf2 htr2)
  clear hr2 hg2 ho2 hf2 htr2 S1' F1 hok2
  obtain ⟨d0, d1, d2, d3, d4, d5, d6⟩ := net_cells S2.out.net
  have fz := blk_free S2.out.net
  go_upto_region 7 with fail
  obtain ⟨W2, hW⟩ : ∃ W, W = (w3.setCell ⟨g, 1, none⟩ (.slice B1 n1 c1)) := ⟨_, rfl⟩
  have S2' : Hid (RdS w W2 a 96 t2 b2 RB g #[.int .i64 P, .slice B1 n1 c1, .slice none 0 0, .slice none 0 0, .slice none 0 0, .slice none 0 0, .slice none 0 0] [⟨2, .slice B1 n1 c1, n1, x1.map (Value.int .i64)⟩] (.slice none 0 0) 0 []) := by
    rw [hW]
    exact Lib.hid (S2.out.set 1 (.slice B1 n1 c1))
  rw [← hW]
  clear hW d0 d1 d2 d3 d4 d5 d6 fz S2
  go_wp2_with fail
  refine (tlist_small a t2 b2 (by omega) _ S2'.out.rd).mono ?_
  rintro r u2 ⟨E2, n2, e2, x2, t3, b3, rfl, ho, hn2, hok, hr, ht3, hg, hf, htr⟩
  have Q2 := Lib.hid (S2'.out.read hr hg)
  have F3 := Lib.hid (sofar2 F2.out hf htr)
  have I2 := Lib.hid (own_ints ho).2.1
  clear hr hg ho hf htr S2' F2 hok
  go_wp2_with fail
  refine (ints_any E2 n2 e2 x2 _ I2.out hn2).mono ?_
  rintro r v2 ⟨B2, l2, c2, rfl, ho, hb⟩
  obtain rfl : n2 = l2 := (own_ints ho).1
  have V2 : Hid (RdS w v2 a 96 t3 b3 RB g #[.int .i64 P, .slice B1 n1 c1, .slice none 0 0, .slice none 0 0, .slice none 0 0, .slice none 0 0, .slice none 0 0] [⟨2, .slice B1 n1 c1, n1, x1.map (Value.int .i64)⟩, ⟨3, .slice B2 n2 c2, n2, x2.map (Value.int .i64)⟩] (.slice none 0 0) 0 []) := Lib.hid ((Q2.out.grow hb).row ho Q2.out.below.size (.inr rfl))
  clear ho hb Q2 I2
  go_wp2_with fail
  refine (tlist_small a t3 b3 (by omega) _ V2.out.rd).mono ?_
  rintro r u3 ⟨E3, n3, e3, x3, t4, b4, rfl, ho, hn3, hok, hr, ht4, hg, hf, htr⟩
  have Q3 := Lib.hid (V2.out.read hr hg)
  have F4 := Lib.hid (sofar3 F3.out hf htr)
  have I3 := Lib.hid (own_ints ho).2.1
  clear hr hg ho hf htr V2 F3 hok
  go_wp2_with fail
  refine (ints_any E3 n3 e3 x3 _ I3.out hn3).mono ?_
  rintro r v3 ⟨B3, l3, c3, rfl, ho, hb⟩
  obtain rfl : n3 = l3 := (own_ints ho).1
  have V3 : Hid (RdS w v3 a 96 t4 b4 RB g #[.int .i64 P, .slice B1 n1 c1, .slice none 0 0, .slice none 0 0, .slice none 0 0, .slice none 0 0, .slice none 0 0] [⟨2, .slice B1 n1 c1, n1, x1.map (Value.int .i64)⟩, ⟨3, .slice B2 n2 c2, n2, x2.map (Value.int .i64)⟩, ⟨3, .slice B3 n3 c3, n3, x3.map (Value.int .i64)⟩] (.slice none 0 0) 0 []) := Lib.hid ((Q3.out.grow hb).row ho Q3.out.below.size (.inr rfl))
  clear ho hb Q3 I3
  go_wp2_with fail
  refine (tlist_small a t4 b4 (by omega) _ V3.out.rd).mono ?_
  rintro r u4 ⟨E4, n4, e4, x4, t5, b5, rfl, ho, hn4, hok, hr, ht5, hg, hf, htr⟩
  have Q4 := Lib.hid (V3.out.read hr hg)
  have F5 := Lib.hid (sofar4 F4.out hf htr)
  have I4 := Lib.hid (own_ints ho).2.1
  clear hr hg ho hf htr V3 F4 hok
  go_wp2_with fail
  refine (ints_any E4 n4 e4 x4 _ I4.out hn4).mono ?_
  rintro r v4 ⟨B4, l4, c4, rfl, ho, hb⟩
  obtain rfl : n4 = l4 := (own_ints ho).1
  have V4 : Hid (RdS w v4 a 96 t5 b5 RB g #[.int .i64 P, .slice B1 n1 c1, .slice none 0 0, .slice none 0 0, .slice none 0 0, .slice none 0 0, .slice none 0 0] [⟨2, .slice B1 n1 c1, n1, x1.map (Value.int .i64)⟩, ⟨3, .slice B2 n2 c2, n2, x2.map (Value.int .i64)⟩, ⟨3, .slice B3 n3 c3, n3, x3.map (Value.int .i64)⟩, ⟨3, .slice B4 n4 c4, n4, x4.map (Value.int .i64)⟩] (.slice none 0 0) 0 []) := Lib.hid ((Q4.out.grow hb).row ho Q4.out.below.size (.inr rfl))
  clear ho hb Q4 I4
  obtain ⟨d0, d1, d2, d3, d4, d5, d6⟩ := net_cells V4.out.net
  have fz := blk_free V4.out.net
  go_upto_region 8 with fail
  obtain ⟨W3, hW⟩ : ∃ W, W = (((v4.setCell ⟨g, 2, none⟩ (.slice B2 n2 c2)).setCell ⟨g, 3, none⟩ (.slice B3 n3 c3)).setCell ⟨g, 4, none⟩ (.slice B4 n4 c4)) := ⟨_, rfl⟩
  have S5 : Hid (RdS w W3 a 96 t5 b5 RB g #[.int .i64 P, .slice B1 n1 c1, .slice B2 n2 c2, .slice B3 n3 c3, .slice B4 n4 c4, .slice none 0 0, .slice none 0 0] [⟨2, .slice B1 n1 c1, n1, x1.map (Value.int .i64)⟩, ⟨3, .slice B2 n2 c2, n2, x2.map (Value.int .i64)⟩, ⟨3, .slice B3 n3 c3, n3, x3.map (Value.int .i64)⟩, ⟨3, .slice B4 n4 c4, n4, x4.map (Value.int .i64)⟩] (.slice none 0 0) 0 []) := by
    rw [hW]
    exact Lib.hid (((V4.out.set 2 (.slice B2 n2 c2)).set 3 (.slice B3 n3 c3)).set 4 (.slice B4 n4 c4))
  rw [← hW]
  clear hW d0 d1 d2 d3 d4 d5 d6 fz V4
  go_wp2_with fail
  refine (tlist_all a t5 b5 (by omega) _ S5.out.rd).mono ?_
  rintro r w6 ⟨B5, n5, c5, x5, t6, b6, rfl, ho6, hn5, hok6, hr6, ht6, hg6, hf6, htr6⟩
  have S6 : Hid (RdS w w6 a 96 t6 b6 RB g #[.int .i64 P, .slice B1 n1 c1, .slice B2 n2 c2, .slice B3 n3 c3, .slice B4 n4 c4, .slice none 0 0, .slice none 0 0] [⟨2, .slice B1 n1 c1, n1, x1.map (Value.int .i64)⟩, ⟨3, .slice B2 n2 c2, n2, x2.map (Value.int .i64)⟩, ⟨3, .slice B3 n3 c3, n3, x3.map (Value.int .i64)⟩, ⟨3, .slice B4 n4 c4, n4, x4.map (Value.int .i64)⟩, ⟨2, .slice B5 n5 c5, n5, x5.map (Value.int .i64)⟩] (.slice none 0 0) 0 []) := Lib.hid ((S5.out.read hr6 hg6).row ho6 S5.out.below.size (.inl rfl))
  have F6 := Lib.hid (sofar5 F5.out hf6 htr6)
  clear hr6 hg6 ho6 hf6 htr6 S5 F5 hok6
  obtain ⟨d0, d1, d2, d3, d4, d5, d6⟩ := net_cells S6.out.net
  have fz := blk_free S6.out.net
  go_upto_region 9 with fail
  obtain ⟨W4, hW⟩ : ∃ W, W = (w6.setCell ⟨g, 5, none⟩ (.slice B5 n5 c5)) := ⟨_, rfl⟩
  have S7 : Hid (RdS w W4 a 96 t6 b6 RB g #[.int .i64 P, .slice B1 n1 c1, .slice B2 n2 c2, .slice B3 n3 c3, .slice B4 n4 c4, .slice B5 n5 c5, .slice none 0 0] [⟨2, .slice B1 n1 c1, n1, x1.map (Value.int .i64)⟩, ⟨3, .slice B2 n2 c2, n2, x2.map (Value.int .i64)⟩, ⟨3, .slice B3 n3 c3, n3, x3.map (Value.int .i64)⟩, ⟨3, .slice B4 n4 c4, n4, x4.map (Value.int .i64)⟩, ⟨2, .slice B5 n5 c5, n5, x5.map (Value.int .i64)⟩] (.slice none 0 0) 0 []) := by
    rw [hW]
    exact Lib.hid (S6.out.set 5 (.slice B5 n5 c5))
  rw [← hW]
  clear hW d0 d1 d2 d3 d4 d5 d6 fz S6
  obtain ⟨L, hL⟩ : ∃ L : List RowD, L = [⟨2, .slice B1 n1 c1, n1, x1.map (Value.int .i64)⟩, ⟨3, .slice B2 n2 c2, n2, x2.map (Value.int .i64)⟩, ⟨3, .slice B3 n3 c3, n3, x3.map (Value.int .i64)⟩, ⟨3, .slice B4 n4 c4, n4, x4.map (Value.int .i64)⟩, ⟨2, .slice B5 n5 c5, n5, x5.map (Value.int .i64)⟩] := ⟨_, rfl⟩
  rw [← hL] at S7
  have HL := Lib.hid hL
  clear hL
  go_wp2_with fail
  refine (tsmall_any a t6 b6 (by omega) _ S7.out.rd).mono ?_
  rintro r w8 ⟨K, t7, b7, rfl, hK, hr7, ht7, hg7, hf7, htr7⟩
  have S8 := Lib.hid (S7.out.read hr7 hg7)
  have F8 : Hid (Sofar b7 (imageR t0.data.toList) (restC (fun cs t => finR ⟨P, x1, x2, x3, x4, x5, cs⟩ t) K [] t7.data.toList)) := Lib.hid (sofarSmall F6.out hf7 htr7)
  clear hr7 hg7 hf7 htr7 S7 F6
  obtain ⟨FIN, hFIN⟩ : ∃ F : List Stp → List UInt8 → Option NetP, F = (fun cs t => finR ⟨P, x1, x2, x3, x4, x5, cs⟩ t) := ⟨_, rfl⟩
  obtain ⟨R, hR⟩ : ∃ R, R = imageR t0.data.toList := ⟨_, rfl⟩
  rw [← hFIN, ← hR] at F8
  have HFIN := Lib.hid hFIN
  have READ : Hid (readV s.data.toList = R) := Lib.hid (by unfold readV; rw [if_pos hh, ← drop_is, ← T0.out, hR])
  have HR := Lib.hid hR
  have hts : t7.size ≤ 1500 := by omega
  clear hFIN hR ht1 ht2 ht3 ht4 ht5 ht6 ht7 hlen
  go_wp2_with fail
  go_loopw [7] (fun i wr => ∃ (m : Nat) (t : ByteArray) (b : Bool) (cs : List Stp) (A6 : Option Addr) (c6 : Nat), m ≤ K ∧ i = .int .i64 m ∧ Hid (RdS w wr a 96 t b RB g #[.int .i64 P, .slice B1 n1 c1, .slice B2 n2 c2, .slice B3 n3 c3, .slice B4 n4 c4, .slice B5 n5 c5, .slice A6 m c6] L (.slice A6 m c6) m (cs.flatMap stpC)) ∧ t.size ≤ t7.size ∧ Hid (Sofar b R (restC FIN (K - m) cs t.data.toList))) (fun i _ => K - (intOf i).toNat)
  case atStart => exact ⟨0, t7, b7, [], none, 0, Nat.zero_le _, rfl, S8, Nat.le_refl _, F8⟩
  case round =>
    obtain ⟨m, t, b, cs, A6, c6, hm, rfl, S, hts2, F⟩ := hrel
    have e1 := S.out.rd.c1
    by_cases hlt : m < K
    · cases b
      · go_upto_region 13 with fail
        clear e1
        go_wp2_with fail
        refine (tsmall_any a t false (by omega) _ S.out.rd).mono ?_
        rintro r w9 ⟨C, t9, b9, rfl, hC, hr9, ht9, hg9, hf9, htr9⟩
        have X9 := Lib.hid (S.out.read hr9 hg9)
        have F9 : Hid (Sofar b9 R (hd1 (fun x => restC FIN (K - (m + 1)) (cs ++ [x.1]) x.2) C t9.data.toList)) := Lib.hid (sofarStep (F.out.to (by rw [show K - m = (K - (m + 1)) + 1 by omega])) hf9 htr9)
        obtain ⟨kk, hkk⟩ : ∃ kk : Stp × List UInt8 → Option NetP, kk = (fun x => restC FIN (K - (m + 1)) (cs ++ [x.1]) x.2) := ⟨_, rfl⟩
        rw [← hkk] at F9
        have KK := Lib.hid hkk
        clear hr9 hg9 hf9 htr9 S F hkk
        go_wp2_with fail
        refine (tsmall_any a t9 b9 (by omega) _ X9.out.rd).mono ?_
        rintro r w10 ⟨D, t10, b10, rfl, hD, hr10, ht10, hg10, hf10, htr10⟩
        have X10 := Lib.hid (XdS.start (X9.out.read hr10 hg10) ⟨C, D, 0, 0, 0⟩)
        have F10 := Lib.hid (sofarDst F9.out hf10 htr10)
        clear hr10 hg10 hf10 htr10 X9 F9
        go_upto_region 14 with fail
        obtain ⟨gx, hgx⟩ : ∃ gx, gx = w10.heap.size := ⟨_, rfl⟩
        obtain ⟨Wx, hWx⟩ : ∃ W, W = w10.alloc (.cells #[.int .i64 C, .int .i64 D, .int .i64 0, .int .i64 0, .int .i64 0] 31) := ⟨_, rfl⟩
        rw [← hgx, ← hWx] at X10 ⊢
        clear hgx hWx
        obtain ⟨e0, e1, e2, e3, e4⟩ := x_cells X10.out.x
        go_upto_if 62 with fail
        go_cut [43] from 43 to 89 (fun _ wx => ∃ (s2 : Stp) (t13 : ByteArray) (b13 : Bool), Hid (s2.c = C) ∧ Hid (XdS w wx a 96 t13 b13 RB g #[.int .i64 P, .slice B1 n1 c1, .slice B2 n2 c2, .slice B3 n3 c3, .slice B4 n4 c4, .slice B5 n5 c5, .slice A6 m c6] L (.slice A6 m c6) m (cs.flatMap stpC) gx s2) ∧ t13.size ≤ t.size ∧ Hid (Sofar b13 R ((argsR (arityV (C : Int)) 0 s2 t13.data.toList).bind kk)))
        case first =>
          by_cases hC1 : C = 1
          · subst hC1
            have hb1 : (((1 : Nat) : Int) == 1) = true := rfl
            go_wp2_with fail
            refine (tsmall_any a t10 b10 (by omega) _ X10.out.st.rd).mono ?_
            rintro r w13 ⟨A, t13, b13, rfl, hA, hr13, ht13, hg13, hf13, htr13⟩
            have X13 := Lib.hid (X10.out.read hr13 hg13)
            have F13 := Lib.hid (sofarNum F10.out hf13 htr13)
            clear e0 e1 e2 e3 e4
            obtain ⟨e0, e1, e2, e3, e4⟩ := x_cells X13.out.x
            have fx := blk_free X13.out.x
            clear hr13 hg13 hf13 htr13
            go_wp2_with fail
            go_meet
            case rel => exact ⟨_, t13, b13, Lib.hid rfl, Lib.hid (X13.out.setA A), by omega, F13⟩
          · have hb1 : ((C : Int) == 1) = false := by simp; omega
            go_wp2_with fail
            go_meet
            case rel => exact ⟨_, t10, b10, Lib.hid rfl, X10, by omega, Lib.hid (sofarNoNum hC1 F10.out)⟩
        case rest =>
          obtain ⟨s2, t13, b13, hs2, X13, ht13, F13⟩ := hcut
          clear e0 e1 e2 e3 e4 X10 F10
          obtain ⟨e0, e1, e2, e3, e4⟩ := x_cells X13.out.x
          go_upto_if 70 with (go_at_call 12; refine (refAsks_any s2 _).mono ?_; rintro r w14 ⟨AA, ca, rfl, hca, hia, hba⟩; have X14 := Lib.hid (X13.out.grow hba); clear hba hia)
          rw [hs2.out] at hca ⊢
          have har := arity_le (C : Int)
          obtain ⟨ar, har0⟩ : ∃ ar, ar = arityV (C : Int) := ⟨_, rfl⟩
          rw [← har0] at hca har F13 ⊢
          have AR := Lib.hid har0
          clear har0 e0 e1 e2 e3 e4 X13
          have F14 : Hid (Sofar b13 R ((argsR (ar - min 0 ar) (min 0 ar) s2 t13.data.toList).bind kk)) := Lib.hid (by rw [Nat.zero_min, Nat.sub_zero]; exact F13.out)
          clear F13
          go_cut [43] from 43 to 89 (fun _ wx => ∃ (s4 : Stp) (t14 : ByteArray) (b14 : Bool), Hid (XdS w wx a 96 t14 b14 RB g #[.int .i64 P, .slice B1 n1 c1, .slice B2 n2 c2, .slice B3 n3 c3, .slice B4 n4 c4, .slice B5 n5 c5, .slice A6 m c6] L (.slice A6 m c6) m (cs.flatMap stpC) gx s4) ∧ t14.size ≤ t.size ∧ Hid (Sofar b14 R ((argsR (ar - min 1 ar) (min 1 ar) s4 t14.data.toList).bind kk)))
          case first =>
            by_cases hq : 0 < ar
            · have hd : decide ((0 : Int) < (ar : Int)) = true := by simp; omega
              obtain ⟨N, hN⟩ : ∃ N, ar - 0 = N + 1 := ⟨ar - 0 - 1, by omega⟩
              have F' : Hid (Sofar b13 R ((argsR (N + 1) 0 s2 t13.data.toList).bind kk)) := Lib.hid (by have h := F14.out; rw [show min 0 ar = 0 by omega, hN] at h; exact h)
              have HN : Hid (N = ar - min 1 ar ∧ min 1 ar = 1) := Lib.hid ⟨by omega, by omega⟩
              clear hN
              go_wp2_with fail
              refine (tsmall_any a t13 b13 (by omega) _ X14.out.st.rd).mono ?_
              rintro r w15 ⟨V, t15, b15, rfl, hV, hr15, ht15, hg15, hf15, htr15⟩
              have X15 := Lib.hid (X14.out.read hr15 hg15)
              have F15 := Lib.hid (sofarArg F'.out hf15 htr15)
              obtain ⟨e0, e1, e2, e3, e4⟩ := x_cells X15.out.x
              have fx := blk_free X15.out.x
              clear hr15 hg15 hf15 htr15
              go_wp2_with fail
              go_meet
              case rel => exact ⟨Proofs.YtgglbjniclkkpaaDoor.setArg s2 0 V, t15, b15, Lib.hid (X15.out.setA V), by omega, Lib.hid (by have h := F15.out; rw [HN.out.1] at h; rw [HN.out.2] at h ⊢; exact h)⟩
            · have hd : decide ((0 : Int) < (ar : Int)) = false := by simp; omega
              have HN : Hid (min 0 ar = min 1 ar) := Lib.hid (by omega)
              go_wp2_with fail
              go_meet
              case rel => exact ⟨s2, t13, b13, X14, ht13, Lib.hid (by rw [← HN.out]; exact F14.out)⟩
          case rest =>
            obtain ⟨r0, q0, y0, Y0, hq0, G0⟩ := hcut
            clear X14 F14
            go_upto_if 75 with fail
            go_cut [43] from 43 to 89 (fun _ wx => ∃ (s4 : Stp) (t14 : ByteArray) (b14 : Bool), Hid (XdS w wx a 96 t14 b14 RB g #[.int .i64 P, .slice B1 n1 c1, .slice B2 n2 c2, .slice B3 n3 c3, .slice B4 n4 c4, .slice B5 n5 c5, .slice A6 m c6] L (.slice A6 m c6) m (cs.flatMap stpC) gx s4) ∧ t14.size ≤ t.size ∧ Hid (Sofar b14 R ((argsR (ar - min 2 ar) (min 2 ar) s4 t14.data.toList).bind kk)))
            case first =>
              by_cases hq : 1 < ar
              · have hd : decide ((1 : Int) < (ar : Int)) = true := by simp; omega
                obtain ⟨N, hN⟩ : ∃ N, ar - 1 = N + 1 := ⟨ar - 1 - 1, by omega⟩
                have F' : Hid (Sofar y0 R ((argsR (N + 1) 1 r0 q0.data.toList).bind kk)) := Lib.hid (by have h := G0.out; rw [show min 1 ar = 1 by omega, hN] at h; exact h)
                have HN : Hid (N = ar - min 2 ar ∧ min 2 ar = 2) := Lib.hid ⟨by omega, by omega⟩
                clear hN
                go_wp2_with fail
                refine (tsmall_any a q0 y0 (by omega) _ Y0.out.st.rd).mono ?_
                rintro r w15 ⟨V, t15, b15, rfl, hV, hr15, ht15, hg15, hf15, htr15⟩
                have X15 := Lib.hid (Y0.out.read hr15 hg15)
                have F15 := Lib.hid (sofarArg F'.out hf15 htr15)
                obtain ⟨e0, e1, e2, e3, e4⟩ := x_cells X15.out.x
                have fx := blk_free X15.out.x
                clear hr15 hg15 hf15 htr15
                go_wp2_with fail
                go_meet
                case rel => exact ⟨Proofs.YtgglbjniclkkpaaDoor.setArg r0 1 V, t15, b15, Lib.hid (X15.out.setB V), by omega, Lib.hid (by have h := F15.out; rw [HN.out.1] at h; rw [HN.out.2] at h ⊢; exact h)⟩
              · have hd : decide ((1 : Int) < (ar : Int)) = false := by simp; omega
                have HN : Hid (min 1 ar = min 2 ar) := Lib.hid (by omega)
                go_wp2_with fail
                go_meet
                case rel => exact ⟨r0, q0, y0, Y0, hq0, Lib.hid (by rw [← HN.out]; exact G0.out)⟩
            case rest =>
              obtain ⟨r1, q1, y1, Y1, hq1, G1⟩ := hcut
              clear Y0 G0
              go_upto_if 80 with fail
              go_cut [43] from 43 to 89 (fun _ wx => ∃ (s4 : Stp) (t14 : ByteArray) (b14 : Bool), Hid (XdS w wx a 96 t14 b14 RB g #[.int .i64 P, .slice B1 n1 c1, .slice B2 n2 c2, .slice B3 n3 c3, .slice B4 n4 c4, .slice B5 n5 c5, .slice A6 m c6] L (.slice A6 m c6) m (cs.flatMap stpC) gx s4) ∧ t14.size ≤ t.size ∧ Hid (Sofar b14 R ((argsR (ar - min 3 ar) (min 3 ar) s4 t14.data.toList).bind kk)))
              case first =>
                by_cases hq : 2 < ar
                · have hd : decide ((2 : Int) < (ar : Int)) = true := by simp; omega
                  obtain ⟨N, hN⟩ : ∃ N, ar - 2 = N + 1 := ⟨ar - 2 - 1, by omega⟩
                  have F' : Hid (Sofar y1 R ((argsR (N + 1) 2 r1 q1.data.toList).bind kk)) := Lib.hid (by have h := G1.out; rw [show min 2 ar = 2 by omega, hN] at h; exact h)
                  have HN : Hid (N = ar - min 3 ar ∧ min 3 ar = 3) := Lib.hid ⟨by omega, by omega⟩
                  clear hN
                  go_wp2_with fail
                  refine (tsmall_any a q1 y1 (by omega) _ Y1.out.st.rd).mono ?_
                  rintro r w15 ⟨V, t15, b15, rfl, hV, hr15, ht15, hg15, hf15, htr15⟩
                  have X15 := Lib.hid (Y1.out.read hr15 hg15)
                  have F15 := Lib.hid (sofarArg F'.out hf15 htr15)
                  obtain ⟨e0, e1, e2, e3, e4⟩ := x_cells X15.out.x
                  have fx := blk_free X15.out.x
                  clear hr15 hg15 hf15 htr15
                  go_wp2_with fail
                  go_meet
                  case rel => exact ⟨Proofs.YtgglbjniclkkpaaDoor.setArg r1 2 V, t15, b15, Lib.hid (X15.out.setE V), by omega, Lib.hid (by have h := F15.out; rw [HN.out.1] at h; rw [HN.out.2] at h ⊢; exact h)⟩
                · have hd : decide ((2 : Int) < (ar : Int)) = false := by simp; omega
                  have HN : Hid (min 2 ar = min 3 ar) := Lib.hid (by omega)
                  go_wp2_with fail
                  go_meet
                  case rel => exact ⟨r1, q1, y1, Y1, hq1, Lib.hid (by rw [← HN.out]; exact G1.out)⟩
              case rest =>
                obtain ⟨r2, q2, y2, Y2, hq2, G2⟩ := hcut
                clear Y1 G1
                have FM0 : Hid (Sofar y2 R ((argsR 0 ar r2 q2.data.toList).bind kk)) := Lib.hid (by have h := G2.out; rw [show min 3 ar = ar by omega, Nat.sub_self] at h; exact h)
                rw [KK.out] at FM0
                have FM := Lib.hid (sofarMore FM0.out)
                clear FM0 G2
                obtain ⟨e0, e1, e2, e3, e4⟩ := x_cells Y2.out.x
                obtain ⟨d0, d1, d2, d3, d4, d5, d6⟩ := net_cells Y2.out.st.net
                go_upto_region 23 with fail
                go_wp2_with (at_builtin; refine wpList_append_own _ rfl _ _ 24 rfl w.heap.size 31 i0 (.agg #[.int .i64 0, .int .i64 0, .int .i64 0, .int .i64 0, .int .i64 0]) 5 40 Tryd.underlying24 hi0 hz0 hz1 hz2 rfl (by decide) _ _ _ rfl (Y2.out.st.code.alloc _) ⟨wc.heap.size, 0, none⟩ 1 1 (stpC r2) rfl rfl ?c1 ?c2 ?c3 ?c4 ?c5 ?_)
                case c1 =>
                  intro j u hj
                  match j, hj with
                  | 0, hj => simp [stpC] at hj; subst hj; simp [Addr.add]
                  | 1, hj => simp [stpC] at hj; subst hj; simp [Addr.add]
                  | 2, hj => simp [stpC] at hj; subst hj; simp [Addr.add]
                  | 3, hj => simp [stpC] at hj; subst hj; simp [Addr.add]
                  | 4, hj => simp [stpC] at hj; subst hj; simp [Addr.add]
                  | j + 5, hj => simp [stpC] at hj
                case c2 =>
                  intro u hu
                  simp only [stpC, List.mem_cons, List.not_mem_nil, or_false] at hu
                  rcases hu with rfl | rfl | rfl | rfl | rfl <;> rfl
                case c3 => unfold maxLen; omega
                case c4 => omega
                case c5 => have := Y2.out.st.below.size; simp; omega
                intro v' w16 hown' hgrow _
                obtain ⟨A7, c7, rfl⟩ : ∃ A c, v' = .slice A (m + 1) c := by
                  rcases hown'.2 with ⟨_, h⟩ | ⟨g', cap, cur, rfl, _⟩
                  · omega
                  · exact ⟨_, _, rfl⟩
                have Y := Lib.hid ((Y2.out.st.grow ((Below.refl _ _).alloc (Nat.le_refl _) _)).more hgrow hown')
                clear hown' hgrow d0 d1 d2 d3 d4 d5 d6 e0 e1 e2 e3 e4 Y2
                obtain ⟨d0, d1, d2, d3, d4, d5, d6⟩ := net_cells Y.out.net
                have fg := blk_free Y.out.net
                go_wp2_with fail
                go_roundw
                case rel =>
                  refine ⟨m + 1, q2, y2, cs ++ [r2], A7, c7, by omega, by go_num, Lib.hid ?_, by omega, FM⟩
                  rw [List.flatMap_append, List.flatMap_cons, List.flatMap_nil, List.append_nil]
                  exact Y.out.set 6 _
                case measure => simp [intOf]; omega
      · have BAD : Hid (R = none) := Lib.hid (F.out.bad rfl)
        have hz := (S.out.res (w.heap.size, #[.int .i64 0, .slice none 0 0, .slice none 0 0, .slice none 0 0, .slice none 0 0, .slice none 0 0, .slice none 0 0], 26) (by rw [HRB.out]; exact List.mem_cons_self)).1
        have hf := (S.out.res (w.heap.size + 1, #[.int .i64 0, .int .i64 0], 38) (by rw [HRB.out]; exact List.mem_cons_of_mem _ List.mem_cons_self)).1
        have HZ := Lib.hid hz
        have HF := Lib.hid hf
        go_wp2_with fail
        refine (bare_any 3 _).mono ?_
        rintro r w20 ⟨rfl, hb20⟩
        have S20 := Lib.hid (S.out.grow hb20)
        have hz := grown_blk (grown_below none hb20) HZ.out (by simp)
        have hf := grown_blk (grown_below none hb20) HF.out (by simp)
        obtain ⟨r0, r1, r2, r3, r4, r5, r6⟩ := net_cells hz
        have rf := blk_free hz
        obtain ⟨s0, s1⟩ := two_cells hf
        have sf := blk_free hf
        clear hb20 hz hf S
        go_wp2_with fail
        have hnone : ansV (readV s.data.toList) = ((3, -1), zeroN) := by rw [READ.out, BAD.out]; rfl
        refine bodyPost_ret (v := .tuple #[.agg #[.int .i64 0, .slice none 0 0, .slice none 0 0, .slice none 0 0, .slice none 0 0, .slice none 0 0, .slice none 0 0], .agg #[.int .i64 3, .int .i64 (-1)]]) (by simp [results, Tryd.results18, go_sem, r0, r1, r2, r3, r4, r5, r6, s0, s1]) rfl ⟨0, none, none, none, none, none, none, 0, 0, 0, 0, 0, 0, 0, 0, 0, 0, 0, 0, ?_, ?_, ?_⟩
        · rw [hnone]
        · rw [hnone]; exact zeroAt _
        · exact below_grow (below_grow S20.out.below (sets_grown _ _ _ _ _ _ _ _ _) (Nat.le_refl _)) (grown_set (grown_set (grown_refl _ _) _) _) (Nat.le_succ _)
    · obtain rfl : m = K := by omega
      have F0 : Hid (Sofar b R (FIN cs t.data.toList)) := Lib.hid (F.out.to (by rw [Nat.sub_self, restC_zero]))
      have hz := (S.out.res (w.heap.size, #[.int .i64 0, .slice none 0 0, .slice none 0 0, .slice none 0 0, .slice none 0 0, .slice none 0 0, .slice none 0 0], 26) (by rw [HRB.out]; exact List.mem_cons_self)).1
      have hf := (S.out.res (w.heap.size + 1, #[.int .i64 0, .int .i64 0], 38) (by rw [HRB.out]; exact List.mem_cons_of_mem _ List.mem_cons_self)).1
      have HZ := Lib.hid hz
      have HF := Lib.hid hf
      cases b
      · by_cases hte : t = ⟨#[]⟩
        · subst hte
          have hteq : ((⟨#[]⟩ : ByteArray) == ⟨#[]⟩) = true := by rfl
          have GOOD : Hid (R = some ⟨P, x1, x2, x3, x4, x5, cs⟩) := Lib.hid (by rw [F0.out.good rfl, HFIN.out]; rfl)
          have e0 := S.out.rd.c0
          obtain ⟨d0, d1, d2, d3, d4, d5, d6⟩ := net_cells S.out.net
          have LEN : Hid (x1.length + x2.length + x3.length + x4.length + x5.length + cs.length ≤ 1500) := Lib.hid (by
            have h1 := (imageR_len (HR.out.symm.trans GOOD.out)).2.2
            have h3 : s.data.toList.length = s.size := by rw [Array.length_toList]; rfl
            rw [T0.out, drop_is, List.length_drop, h3] at h1
            simp only [] at h1
            omega)
          have NA := Lib.hid (RdS.netAt (P := (P : Int)) (c6' := c6) (by have h := S.out; rw [HL.out] at h; exact h) (by omega) LEN.out)
          have FW : Hid (FineAt wr) := Lib.hid ⟨cell_up S.out.below HGL.out.1, cell_up S.out.below HGL.out.2⟩
          go_wp2_with fail
          refine (ref_anyL _ _ _ _ _ _ _ _ _ _ _ _ _ _ _ _ _ _ _ _ wr NA.out FW.out).mono ?_
          rintro r w17 ⟨rfl, hb17⟩
          obtain ⟨J1, hJ1⟩ : ∃ j, j = (judgeV ⟨P, x1, x2, x3, x4, x5, cs⟩).1 := ⟨_, rfl⟩
          obtain ⟨J2, hJ2⟩ : ∃ j, j = (judgeV ⟨P, x1, x2, x3, x4, x5, cs⟩).2 := ⟨_, rfl⟩
          rw [← hJ1, ← hJ2]
          have HJ1 := Lib.hid hJ1
          have HJ2 := Lib.hid hJ2
          have hb18 := (Below.refl w17.heap.size w17).alloc (Nat.le_refl _) (Obj.cells #[.int .i64 J1, .int .i64 J2] 38)
          have x0 := cell_up hb17 FW.out.1
          have x1' := cell_up hb17 FW.out.2
          have S17 := Lib.hid (S.out.grow hb17)
          have S18 := Lib.hid (S.out.grow (below_up hb17 hb18))
          have hz := grown_blk (grown_below none hb17) HZ.out (by simp)
          have hf := grown_blk (grown_below none hb17) HF.out (by simp)
          have HZ17 := Lib.hid hz
          have HF17 := Lib.hid hf
          clear d0 d1 d2 d3 d4 d5 d6 e0 e1
          obtain ⟨r0, r1, r2, r3, r4, r5, r6⟩ := net_cells hz
          have rf := blk_free hz
          obtain ⟨s0, s1⟩ := two_cells hf
          have sf := blk_free hf
          obtain ⟨d0, d1, d2, d3, d4, d5, d6⟩ := net_cells S17.out.net
          have lg : g < w17.heap.size := lt_of_block S17.out.net
          have l17 : w.heap.size + 1 < w17.heap.size := Nat.lt_of_lt_of_le (lt_of_block HF.out) hb17.size
          have l0 : 0 < w.heap.size := World.block_lt_of_cell? w _ HGL.out.1
          have l16 : w.heap.size < w17.heap.size := by omega
          have l00 : 0 < w17.heap.size := by omega
          clear hb17 hb18 S hz hf
          by_cases hj : J1 = 0
          · have hj2 : J2 = -1 := by rw [hJ2]; exact judge_fineL (by rw [← hJ1]; exact hj)
            have JJ : Hid ((judgeV ⟨P, x1, x2, x3, x4, x5, cs⟩) = (0, -1)) := Lib.hid (Prod.ext (by rw [← hJ1]; exact hj) (by rw [← hJ2]; exact hj2))
            have AN : Hid (ansV (readV s.data.toList) = ((0, -1), ⟨P, x1, x2, x3, x4, x5, cs⟩)) := Lib.hid (by rw [READ.out, GOOD.out]; show (if _ then _ else _) = _; rw [if_pos JJ.out])
            clear hJ1 hJ2
            subst hj hj2
            have HA : Hid (w.heap.size + 1 < a) := Lib.hid (S18.out.res (w.heap.size + 1, #[.int .i64 0, .int .i64 0], 38) (by rw [HRB.out]; exact List.mem_cons_of_mem _ List.mem_cons_self)).2.1
            go_upto_region 29 with fail
            go_region
            all_goals
              go_wp2_with fail
              first
              | exact bodyPost_ret (v := .tuple #[.agg #[.int .i64 P, .slice B1 n1 c1, .slice B2 n2 c2, .slice B3 n3 c3, .slice B4 n4 c4, .slice B5 n5 c5, .slice A6 m c6], .agg #[.int .i64 0, .int .i64 (-1)]]) (by simp [results, Tryd.results18, go_sem, r0, r1, r2, r3, r4, r5, r6, s0, s1, l16, l17]) rfl ⟨P, B1, B2, B3, B4, B5, A6, n1, c1, n2, c2, n3, c3, n4, c4, n5, c5, m, c6, by rw [AN.out], by rw [AN.out]; exact RdS.netAt (by have h := (((S17.out.end1 HZ17.out HF17.out HA.out (Nat.le_refl _) (.int .i64 P) (.slice B1 n1 c1) (.slice B2 n2 c2) (.slice B3 n3 c3) (.slice B4 n4 c4) (.slice B5 n5 c5) (.slice A6 m c6) (.int .i64 0) (.int .i64 (-1))).grow ((Below.refl _ _).alloc (Nat.le_refl _) _)).drew : RdS w ((World.alloc _ (.cells #[.int .i64 0, .int .i64 (-1)] 38)).drew) _ _ _ _ _ _ _ _ _ _ _); rw [HL.out] at h; exact h) (by omega) LEN.out, (((S17.out.end1 HZ17.out HF17.out HA.out (Nat.le_refl _) _ _ _ _ _ _ _ _ _).grow ((Below.refl _ _).alloc (Nat.le_refl _) _)).drew).below⟩
              | exact bodyPost_ret (v := .tuple #[.agg #[.int .i64 P, .slice B1 n1 c1, .slice B2 n2 c2, .slice B3 n3 c3, .slice B4 n4 c4, .slice B5 n5 c5, .slice A6 m c6], .agg #[.int .i64 0, .int .i64 (-1)]]) (by simp [results, Tryd.results18, go_sem, r0, r1, r2, r3, r4, r5, r6, s0, s1, l16, l17]) rfl ⟨P, B1, B2, B3, B4, B5, A6, n1, c1, n2, c2, n3, c3, n4, c4, n5, c5, m, c6, by rw [AN.out], by rw [AN.out]; exact RdS.netAt (by have h := (((S17.out.end2 HZ17.out HF17.out HA.out (Nat.le_refl _) (.int .i64 P) (.slice B1 n1 c1) (.slice B2 n2 c2) (.slice B3 n3 c3) (.slice B4 n4 c4) (.slice B5 n5 c5) (.slice A6 m c6) (.int .i64 0) (.int .i64 (-1))).grow ((Below.refl _ _).alloc (Nat.le_refl _) _)).drew : RdS w ((World.alloc _ (.cells #[.int .i64 0, .int .i64 (-1)] 38)).drew) _ _ _ _ _ _ _ _ _ _ _); rw [HL.out] at h; exact h) (by omega) LEN.out, (((S17.out.end2 HZ17.out HF17.out HA.out (Nat.le_refl _) _ _ _ _ _ _ _ _ _).grow ((Below.refl _ _).alloc (Nat.le_refl _) _)).drew).below⟩
              | fail
          · have hjb : (J1 == 0) = false := by simpa using hj
            have AN : Hid (ansV (readV s.data.toList) = ((J1, J2), zeroN)) := Lib.hid (by rw [READ.out, GOOD.out]; show (if _ then _ else _) = _; rw [if_neg (fun e => hj (by rw [hJ1, e])), hJ1, hJ2])
            clear hJ1 hJ2 hj
            have HA : Hid (w.heap.size + 1 < a) := Lib.hid (S18.out.res (w.heap.size + 1, #[.int .i64 0, .int .i64 0], 38) (by rw [HRB.out]; exact List.mem_cons_of_mem _ List.mem_cons_self)).2.1
            go_upto_region 28 with fail
            go_region
            all_goals
              go_wp2_with fail
              first
              | exact bodyPost_ret (v :=   .tuple #[.agg #[.int .i64 0, .slice none 0 0, .slice none 0 0, .slice none 0 0, .slice none 0 0, .slice none 0 0, .slice none 0 0], .agg #[.int .i64 J1, .int .i64 J2]]) (by simp [results, Tryd.results18, go_sem, r0, r1, r2, r3, r4, r5, r6, s0, s1, l16, l17]) rfl ⟨0, none, none, none, none, none, none, 0, 0, 0, 0, 0, 0, 0, 0, 0, 0, 0, 0, by rw [AN.out], by rw [AN.out]; exact zeroAt _, (((S17.out.end1 HZ17.out HF17.out HA.out (Nat.le_refl _) _ _ _ _ _ _ _ _ _).grow ((Below.refl _ _).alloc (Nat.le_refl _) _)).drew).below⟩
              | exact bodyPost_ret (v :=   .tuple #[.agg #[.int .i64 0, .slice none 0 0, .slice none 0 0, .slice none 0 0, .slice none 0 0, .slice none 0 0, .slice none 0 0], .agg #[.int .i64 J1, .int .i64 J2]]) (by simp [results, Tryd.results18, go_sem, r0, r1, r2, r3, r4, r5, r6, s0, s1, l16, l17]) rfl ⟨0, none, none, none, none, none, none, 0, 0, 0, 0, 0, 0, 0, 0, 0, 0, 0, 0, by rw [AN.out], by rw [AN.out]; exact zeroAt _, (((S17.out.end2 HZ17.out HF17.out HA.out (Nat.le_refl _) _ _ _ _ _ _ _ _ _).grow ((Below.refl _ _).alloc (Nat.le_refl _) _)).drew).below⟩
              | fail
        · have e0 := S.out.rd.c0
          have hne : t.toList.isEmpty = false := by
            rw [ByteArray.toList_eq]
            cases hl : t.data.toList with
            | nil => exact absurd (by cases t; simp at hl; simp [hl]) hte
            | cons _ _ => rfl
          have BAD : Hid (R = none) := Lib.hid (by
            rw [F0.out.good rfl, HFIN.out]
            show (if t.data.toList = [] then _ else _) = _
            rw [if_neg]
            intro h
            exact hte (by cases t; simp at h; simp [h]))
          go_wp2_with fail
          refine (bare_any 3 _).mono ?_
          rintro r w20 ⟨rfl, hb20⟩
          have S20 := Lib.hid (S.out.grow hb20)
          have hz := grown_blk (grown_below none hb20) HZ.out (by simp)
          have hf := grown_blk (grown_below none hb20) HF.out (by simp)
          obtain ⟨r0, r1, r2, r3, r4, r5, r6⟩ := net_cells hz
          have rf := blk_free hz
          obtain ⟨s0, s1⟩ := two_cells hf
          have sf := blk_free hf
          clear hb20 hz hf S
          go_wp2_with fail
          have hnone : ansV (readV s.data.toList) = ((3, -1), zeroN) := by rw [READ.out, BAD.out]; rfl
          refine bodyPost_ret (v := .tuple #[.agg #[.int .i64 0, .slice none 0 0, .slice none 0 0, .slice none 0 0, .slice none 0 0, .slice none 0 0, .slice none 0 0], .agg #[.int .i64 3, .int .i64 (-1)]]) (by simp [results, Tryd.results18, go_sem, r0, r1, r2, r3, r4, r5, r6, s0, s1]) rfl ⟨0, none, none, none, none, none, none, 0, 0, 0, 0, 0, 0, 0, 0, 0, 0, 0, 0, ?_, ?_, ?_⟩
          · rw [hnone]
          · rw [hnone]; exact zeroAt _
          · exact below_grow (below_grow S20.out.below (sets_grown _ _ _ _ _ _ _ _ _) (Nat.le_refl _)) (grown_set (grown_set (grown_refl _ _) _) _) (Nat.le_succ _)
      · have BAD : Hid (R = none) := Lib.hid (F0.out.bad rfl)
        go_wp2_with fail
        refine (bare_any 3 _).mono ?_
        rintro r w20 ⟨rfl, hb20⟩
        have S20 := Lib.hid (S.out.grow hb20)
        have hz := grown_blk (grown_below none hb20) HZ.out (by simp)
        have hf := grown_blk (grown_below none hb20) HF.out (by simp)
        obtain ⟨r0, r1, r2, r3, r4, r5, r6⟩ := net_cells hz
        have rf := blk_free hz
        obtain ⟨s0, s1⟩ := two_cells hf
        have sf := blk_free hf
        clear hb20 hz hf S
        go_wp2_with fail
        have hnone : ansV (readV s.data.toList) = ((3, -1), zeroN) := by rw [READ.out, BAD.out]; rfl
        refine bodyPost_ret (v := .tuple #[.agg #[.int .i64 0, .slice none 0 0, .slice none 0 0, .slice none 0 0, .slice none 0 0, .slice none 0 0, .slice none 0 0], .agg #[.int .i64 3, .int .i64 (-1)]]) (by simp [results, Tryd.results18, go_sem, r0, r1, r2, r3, r4, r5, r6, s0, s1]) rfl ⟨0, none, none, none, none, none, none, 0, 0, 0, 0, 0, 0, 0, 0, 0, 0, 0, 0, ?_, ?_, ?_⟩
        · rw [hnone]
        · rw [hnone]; exact zeroAt _
        · exact below_grow (below_grow S20.out.below (sets_grown _ _ _ _ _ _ _ _ _) (Nat.le_refl _)) (grown_set (grown_set (grown_refl _ _) _) _) (Nat.le_succ _)
end Go.Proofs.YtgglbjniclkkpaaDoor

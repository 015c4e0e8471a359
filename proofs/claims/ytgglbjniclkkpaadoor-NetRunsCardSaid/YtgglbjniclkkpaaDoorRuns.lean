/-
  The law NetRuns: the walk.
-/
import Derived.Test.YtgglbjniclkkpaaDoorRefTick
import Derived.Test.YtgglbjniclkkpaaDoorRunsPlain
import Derived.Test.YtgglbjniclkkpaaDoorFew
namespace Go.Proofs.YtgglbjniclkkpaaDoor
open Go.RowKit
set_option linter.unusedVariables false

set_option maxRecDepth 100000 in
set_option maxHeartbeats 4000000 in
theorem runs_no (P : Int) (A1 A2 A3 A4 A5 A6 : Option Addr) (n1 c1 n2 c2 n3 c3 n4 c4 n5 c5 n6 c6 : Nat) (B : Option Addr) (ni ci : Nat) (R : List (List Int)) (w : World) (hB : RowsAt w B ni R) (hh : ¬ (heldB P n1 n2 n3 n4 n5 n6 = true ∧ fewB R = true)) :
    Calls Tryd.prog 8 #[.agg #[.int .i64 P, .slice A1 n1 c1, .slice A2 n2 c2, .slice A3 n3 c3, .slice A4 n4 c4, .slice A5 n5 c5, .slice A6 n6 c6], .slice B ni ci] w fun r w' => r = .returned (.bool true) ∧ Below w.heap.size w w' := by
  have HH := Lib.hid (held_any P A1 A2 A3 A4 A5 A6 n1 c1 n2 c2 n3 c3 n4 c4 n5 c5 n6 c6 (w.alloc (.cells #[.int .i64 P, .slice A1 n1 c1, .slice A2 n2 c2, .slice A3 n3 c3, .slice A4 n4 c4, .slice A5 n5 c5, .slice A6 n6 c6] 26)))
  have HB := Lib.hid ((Below.refl w.heap.size w).alloc (Nat.le_refl _) (Obj.cells #[.int .i64 P, .slice A1 n1 c1, .slice A2 n2 c2, .slice A3 n3 c3, .slice A4 n4 c4, .slice A5 n5 c5, .slice A6 n6 c6] 26))
  have HR := Lib.hid hB
  by_cases h1 : heldB P n1 n2 n3 n4 n5 n6 = true
  · rw [h1] at HH
    have h2 : fewB R = false := by
      cases h : fewB R
      · rfl
      · exact absurd ⟨h1, h⟩ hh
    clear hh hB
    go_enter Tryd.func8, Tryd.ntmps8
    go_wp2_with (go_at_call 9; refine HH.out.mono ?_; rintro r w1 ⟨rfl, hb1⟩)
    refine (few_any B ni ci R w1 (HR.out.up (below_up HB.out hb1))).mono ?_
    rw [h2]
    rintro r w2 ⟨rfl, hb2⟩
    have BB := Lib.hid (below_up HB.out (below_up hb1 hb2))
    clear hb1 hb2
    go_wp2_with fail
    go_ret
    exact ⟨rfl, BB.out⟩
  · rw [Bool.eq_false_iff.2 h1] at HH
    clear hh h1 hB
    go_enter Tryd.func8, Tryd.ntmps8
    go_wp2_with (go_at_call 9; refine HH.out.mono ?_; rintro r w1 ⟨rfl, hb1⟩)
    go_ret
    exact ⟨rfl, below_up HB.out hb1⟩
theorem RMs.rebase {W W2 wr : World} {m b n p : Nat} {NC : List Value} {V : List Int} (h : RMs W2 wr m b n NC p V) (hb : Below W.heap.size W W2) : RMs W wr m b n NC p V :=
  ⟨hb.trans (h.below.mono hb.size), Nat.le_trans hb.size h.lo, Nat.le_trans hb.size h.lb, h.box, h.map, h.len, h.ok⟩
/-- Code's machine and the reference's, side by side. -/
structure Pr (W w : World) (m gk : Nat) (AV : Option Addr) (cV : Nat) (q b n : Nat) (NC : List Value) (p : Nat) (V : List Int) (K : List Bool) : Prop where
  M : MSt W w m gk NC AV p cV V K
  R : RMs W w q b n NC p V
theorem Pr.grow {W w w' : World} {m gk : Nat} {AV : Option Addr} {cV q b n : Nat} {NC : List Value} {p : Nat} {V : List Int} {K : List Bool} (T : Pr W w m gk AV cV q b n NC p V K) (hb : Below w.heap.size w w') : Pr W w' m gk AV cV q b n NC p V K := ⟨T.M.grow hb, T.R.grow hb⟩
/-- The reference's machine while code's ticks. -/
theorem RMs.beside {W w w' : World} {q b n p : Nat} {NC : List Value} {V : List Int} (h : RMs W w q b n NC p V) {AM : Option Addr} {k cM : Nat} {ys : List Value} (hv : w.ownsRow W.heap.size 2 1 (.slice AM k cM) k ys) (hg : w.grownBy w' (Value.slice AM k cM).ownBlock) : RMs W w' q b n NC p V :=
  h.other hg (fun e => by obtain ⟨c, hc⟩ := own_kind' hv q e.symm; rw [h.box] at hc; injection hc with hc; injection hc with _ h2 _; exact absurd h2 (by decide))
    (fun e => by obtain ⟨c, hc⟩ := own_kind' hv b e.symm; exact h.map.not_cells hc rfl) (fun x e => (own_lt' hv x e).1)
/-- Code's machine while the reference's ticks. -/
theorem MSt.besideR {W w w1 w' : World} {k gk : Nat} {NC NC' : List Value} {AK : Option Addr} {p cK : Nat} {V V' : List Int} {K : List Bool} {q b n p' : Nat} (h : MSt W w k gk NC AK p cK V K) (hr : RMs W w q b n NC' p' V') (hg : w.grownBy w1 (some b)) (hg2 : w1.grownBy w' (some q)) : MSt W w' k gk NC AK p cK V K := by
  have h1 := h.other hg (by simpa using hr.map.not_cells h.box) (by simpa using hr.map.not_cells h.ks) (own_not_map h.vs hr.map) (fun x e => by cases e; exact hr.lb)
  have hq := grown_blk hg hr.box (by simpa using hr.map.not_cells hr.box)
  refine h1.other hg2 (fun e => ?_) (fun e => ?_) (own_not h1.vs hq (by decide)) (fun x e => by cases e; exact hr.lo)
  · have e := Option.some.inj e
    have hb := h1.box
    rw [e, hq] at hb
    injection hb with hb
    injection hb with _ h2 _
    exact absurd h2 (by decide)
  · have e := Option.some.inj e
    have hb := h1.ks
    rw [e, hq] at hb
    injection hb with hb
    injection hb with _ h2 _
    exact absurd h2 (by decide)
theorem keepCell {w W : World} {bb o : Nat} {v : Value} (h : w.cell? ⟨bb, o, none⟩ = some v) (hb : Below W.heap.size W w) : w.cell? ⟨bb, o, none⟩ = some v := h
set_option maxRecDepth 100000 in
set_option maxHeartbeats 16000000 in
theorem runs_yes (P : Int) (A1 A2 A3 A4 A5 A6 : Option Addr) (n1 c1 n2 c2 n3 c3 n4 c4 n5 c5 n6 c6 : Nat) (N : NetP) (B : Option Addr) (ni ci : Nat) (R : List (List Int)) (w : World) (h : NetAt w P A1 A2 A3 A4 A5 A6 n1 c1 n2 c2 n3 c3 n4 c4 n5 c5 n6 c6 N) (hok : OkNet N) (hg : HandleAt w) (hfi : FineAt w) (hB : RowsAt w B ni R) (hh : heldB P n1 n2 n3 n4 n5 n6 = true) (hf : fewB R = true) :
    Calls Tryd.prog 8 #[.agg #[.int .i64 P, .slice A1 n1 c1, .slice A2 n2 c2, .slice A3 n3 c3, .slice A4 n4 c4, .slice A5 n5 c5, .slice A6 n6 c6], .slice B ni ci] w fun r w' => r = .returned (.bool true) ∧ Below w.heap.size w w' := by
  have HH := Lib.hid (held_any P A1 A2 A3 A4 A5 A6 n1 c1 n2 c2 n3 c3 n4 c4 n5 c5 n6 c6 (w.alloc (.cells #[.int .i64 P, .slice A1 n1 c1, .slice A2 n2 c2, .slice A3 n3 c3, .slice A4 n4 c4, .slice A5 n5 c5, .slice A6 n6 c6] 26)))
  rw [hh] at HH
  have HB := Lib.hid ((Below.refl w.heap.size w).alloc (Nat.le_refl _) (Obj.cells #[.int .i64 P, .slice A1 n1 c1, .slice A2 n2 c2, .slice A3 n3 c3, .slice A4 n4 c4, .slice A5 n5 c5, .slice A6 n6 c6] 26))
  have HX0 := Lib.hid (heap_alloc_new w (Obj.cells #[.int .i64 P, .slice A1 n1 c1, .slice A2 n2 c2, .slice A3 n3 c3, .slice A4 n4 c4, .slice A5 n5 c5, .slice A6 n6 c6] 26))
  have hni : ni ≤ 40 := by
    have h1 := hf
    unfold fewB at h1
    rw [Bool.and_eq_true] at h1
    have := of_decide_eq_true h1.1
    rw [hB.1] at this
    exact this
  have H := Lib.hid h
  have HG := Lib.hid hg
  have HF := Lib.hid hfi
  have HR := Lib.hid hB
  have HO := Lib.hid hok
  have FW := Lib.hid hf
  clear h hg hfi hB hh hok
  go_enter Tryd.func8, Tryd.ntmps8
  go_wp2_with (go_at_call 9; refine HH.out.mono ?_; rintro r w1 ⟨rfl, hb1⟩)
  refine (few_any B ni ci R w1 (HR.out.up (below_up HB.out hb1))).mono ?_
  rw [FW.out]
  rintro r w2 ⟨rfl, hb2⟩
  have hx2 := grown_blk (grown_below none (below_up hb1 hb2)) HX0.out (by simp)
  have B2 := Lib.hid (below_up HB.out (below_up hb1 hb2))
  have HX2 := Lib.hid hx2
  obtain ⟨r0, r1, r2, r3, r4, r5, r6⟩ := net_cells hx2
  clear hb1 hb2 hx2 HB HH HX0 hf
  obtain ⟨J1, hJ1⟩ : ∃ j, j = (judgeV N).1 := ⟨_, rfl⟩
  obtain ⟨J2, hJ2⟩ : ∃ j, j = (judgeV N).2 := ⟨_, rfl⟩
  have HJ1 := Lib.hid hJ1
  have HJ2 := Lib.hid hJ2
  go_wp2_with fail
  refine (ref_any P A1 A2 A3 A4 A5 A6 n1 c1 n2 c2 n3 c3 n4 c4 n5 c5 n6 c6 N w2 (H.out.up B2.out) ⟨cell_up B2.out HF.out.1, cell_up B2.out HF.out.2⟩).mono ?_
  rintro r w3 ⟨rfl, hb3⟩
  rw [← hJ1, ← hJ2]
  clear hJ1 hJ2
  have hb4 := (Below.refl w3.heap.size w3).alloc (Nat.le_refl _) (Obj.cells #[.int .i64 J1, .int .i64 J2] 38)
  have hf4 := heap_alloc_new w3 (Obj.cells #[.int .i64 J1, .int .i64 J2] 38)
  go_upto_region 4 with fail
  obtain ⟨gf, hgf⟩ : ∃ x, x = w3.heap.size := ⟨_, rfl⟩
  obtain ⟨W, hW⟩ : ∃ X, X = w3.alloc (Obj.cells #[.int .i64 J1, .int .i64 J2] 38) := ⟨_, rfl⟩
  rw [← hW] at hb4 hf4
  rw [← hgf] at hf4
  rw [← hgf, ← hW]
  have BW := Lib.hid (below_up B2.out (below_up hb3 hb4))
  have B24 := Lib.hid (below_up hb3 hb4)
  have HFC := Lib.hid hf4
  clear r0 r1 r2 r3 r4 r5 r6 hgf hW hb3 hb4 hf4
  have HXW := Lib.hid (grown_blk (grown_below none B24.out) HX2.out (by simp))
  obtain ⟨r0, r1, r2, r3, r4, r5, r6⟩ := net_cells HXW.out
  have NW := Lib.hid (H.out.up BW.out)
  have GW := Lib.hid (HG.out.up BW.out)
  have RW := Lib.hid (HR.out.up BW.out)
  have FFW : Hid (FineAt W) := Lib.hid ⟨cell_up BW.out HF.out.1, cell_up BW.out HF.out.2⟩
  by_cases hj : (judgeV N).1 = 0
  · have JJ := Lib.hid (judge_ok hj)
    obtain ⟨hpl, hgood⟩ := good_net JJ.out
    have l1 := NW.out.i1.1
    have hP : P = (n1 : Int) := by rw [← NW.out.hp, hpl, l1]
    subst hP
    rw [l1] at hgood
    have GD := Lib.hid hgood
    have e1 : J1 = 0 := by rw [HJ1.out]; exact hj
    have e2 : J2 = -1 := by rw [HJ2.out, JJ.out]
    subst e1 e2
    clear hj hpl hgood l1
    go_wp2_with fail
    refine (new_ok n1 A1 A2 A3 A4 A5 A6 n1 c1 n2 c2 n3 c3 n4 c4 n5 c5 n6 c6 N W NW.out GW.out JJ.out).mono ?_
    rintro r w5 ⟨m, gm, AM, cM, rfl, hM⟩
    have M5 := Lib.hid hM
    have B5 := Lib.hid hM.below
    have hk := Lib.hid (grown_blk (grown_below none B5.out) HFC.out (by simp))
    clear r0 r1 r2 r3 r4 r5 r6 hM
    obtain ⟨f0, f1⟩ : w5.cell? ⟨gf, 0, none⟩ = some (.int .i64 0) ∧ w5.cell? ⟨gf, 1, none⟩ = some (.int .i64 (-1)) := by
      constructor <;> simp [World.cell?, hk.out]
    go_wp2_with fail
    have HI := Lib.hid (is_any .nilIface 0 (-1) 0 (-1) w5 (GW.out.up B5.out) (.inl ⟨rfl, rfl, rfl⟩))
    rw [beq_self_eq_true, beq_self_eq_true] at HI
    refine HI.out.mono ?_
    rintro r w6 ⟨rfl, hb6⟩
    have B6 := Lib.hid (B5.out.trans (hb6.mono B5.out.size))
    have M6 := Lib.hid (M5.out.grow hb6)
    have hk6 := Lib.hid (grown_blk (grown_below none hb6) hk.out (by simp))
    clear f0 f1 hb6
    obtain ⟨f0, f1⟩ : w6.cell? ⟨gf, 0, none⟩ = some (.int .i64 0) ∧ w6.cell? ⟨gf, 1, none⟩ = some (.int .i64 (-1)) := by
      constructor <;> simp [World.cell?, hk6.out]
    have g0 := cell_up B6.out FFW.out.1
    have g1 := cell_up B6.out FFW.out.2
    obtain ⟨r0, r1, r2, r3, r4, r5, r6⟩ := net_cells (grown_blk (grown_below none B6.out) HXW.out (by simp))
    go_wp2_with fail
    refine (newRef_any A1 A2 A3 A4 A5 A6 n1 c1 n2 c2 n3 c3 n4 c4 n5 c5 n6 c6 N w6 (NW.out.up B6.out) HO.out.first).mono ?_
    rintro r w7 ⟨q, b, n, hn, rfl, hR⟩
    have T7 : Hid (Pr W w7 m gm AM cM q b n [.int .i64 n1, .slice A1 n1 c1, .slice A2 n2 c2, .slice A3 n3 c3, .slice A4 n4 c4, .slice A5 n5 c5, .slice A6 n6 c6] n1 N.first (kpV N.keeps (List.replicate n1 false))) := Lib.hid ⟨M6.out.grow hR.below, hR.rebase B6.out⟩
    clear hR r0 r1 r2 r3 r4 r5 r6 f0 f1 g0 g1
    go_wp2_with fail
    go_loopw [9] (fun i wr => ∃ (k b' n' : Nat) (V : List Int), k ≤ ni ∧ i = .int .i64 k ∧ n' ≤ 300 ∧ Hid (Pr W wr m gm AM cM q b' n' [.int .i64 n1, .slice A1 n1 c1, .slice A2 n2 c2, .slice A3 n3 c3, .slice A4 n4 c4, .slice A5 n5 c5, .slice A6 n6 c6] n1 V (kpV N.keeps (List.replicate n1 false)))) (fun i _ => ni - (intOf i).toNat)
    case atStart => exact ⟨0, b, n, _, Nat.zero_le _, rfl, hn, T7⟩
    case round =>
      clear T7
      obtain ⟨k, b', n', V, hk', rfl, hn', T⟩ := hrel
      by_cases hlt : k < ni
      · obtain ⟨bb, o, rfl, hc⟩ := RW.out.2 (by omega)
        obtain ⟨AI, l, c, xs, hc1, hc2, hc3, hc4⟩ := hc k hlt
        have HC2 := Lib.hid hc2
        have HC3 := Lib.hid hc3
        have HC4 := Lib.hid hc4
        have hl30 : l ≤ 30 := by have := fewB_at FW.out hc1; rw [hc3.1] at this; exact this
        have hcw := cell_up T.out.M.below hc2
        have i0 : (0 : Int) ≤ (k : Int) := by omega
        have i1 : (k : Int) < (ni : Int) := by omega
        clear hc hc1 hc2 hc3 hc4
        go_upto_region 13 with fail
        have QL : Hid (q < wr.heap.size ∧ b' < wr.heap.size) := Lib.hid ⟨lt_of_block T.out.R.box, T.out.R.map.lt⟩
        have VL : Hid ((runV N.nums N.code (insV xs N.ins 0 V)).length = n1) := Lib.hid (by rw [runV_len, insV_len, T.out.M.len])
        go_region_held3 (fun w' => w'.cell? ⟨bb, o + k, none⟩ = some (.slice AI l c))
          ((first | exact hcw | assumption))
          (first | (go_at_call 26; refine (tick_any W A1 A2 A3 A4 A5 A6 n1 c1 n2 c2 n3 c3 n4 c4 n5 c5 n6 c6 N NW.out GD.out m gm AM cM V _ AI l c xs HC3.out (by omega) _ T.out.M.drew).mono ?_; rintro r w8 ⟨OA, k8, d8, rfl, ho8, hS8, hg8⟩; obtain rfl : n3 = k8 := (own_ints ho8).1; have hcw8 := cell_up hS8.below HC2.out; have O8 := Lib.hid ho8; have S8 := Lib.hid hS8; have R8 := Lib.hid (T.out.R.drew.beside T.out.M.drew.vs hg8); clear ho8 hS8 hg8) | (go_at_call 35; refine (refTick_any W A1 A2 A3 A4 A5 A6 n1 c1 n2 c2 n3 c3 n4 c4 n5 c5 n6 c6 N NW.out GD.out HO.out.nums q b' n' hn' V AI l c xs HC3.out (by omega) HC4.out _ R8.out).mono ?_; rintro r w9 ⟨OB, k9, d9, b9, n9, V9, wm, rfl, ho9, hn9, hS9, hV9, hg9, hgm⟩; obtain rfl : n3 = k9 := (own_ints ho9).1; have hcw9 := cell_up hS9.below HC2.out; have O9 := Lib.hid ho9; have S9 := Lib.hid hS9; have F9 := Lib.hid hV9; have M9 := Lib.hid (S8.out.besideR R8.out hg9 hgm); have O8' := Lib.hid (row_kept (row_kept O8.out hg9 (fun x e => by have h := QL.out.2; have := Option.some.inj e; subst this; exact h)) hgm (fun x e => by have h := QL.out.1; have := Option.some.inj e; subst this; exact h)); clear ho9 hS9 hV9 hg9 hgm) | (go_at_call 34; refine (sameNumsL_any _ _ _ _ _ _ (N.outs.map (atV (runV N.nums N.code (insV xs N.ins 0 V)))) (N.outs.map (atV (runV N.nums N.code (insV xs N.ins 0 V)))) _ (own_ints O8'.out).2.1 (own_ints O9.out).2.1 (by have := NW.out.b3; omega)).mono ?_; rw [sameB_refl]; rintro r w10 ⟨rfl, hb10⟩; have hcw10 := cell_up hb10 hcw9; have M10 := Lib.hid (M9.out.grow hb10); have R10 := Lib.hid (S9.out.grow hb10); clear hb10))
        all_goals
          go_wp2_with fail
          go_roundw
          case rel => exact ⟨k + 1, b9, n9, _, by omega, by go_num, hn9, Lib.hid ⟨M10.out, by have h := R10.out; rw [kept_same VL.out h.len F9.out] at h; exact h⟩⟩
          case measure => simp [intOf]; omega
      · go_wp2_with fail
        go_ret
        exact ⟨rfl, BW.out.trans (T.out.M.below.mono BW.out.size)⟩
  · have JJ := Lib.hid hj
    have hjb : (J1 == 0) = false := by rw [HJ1.out]; simpa using hj
    clear hj
    go_wp2_with fail
    refine (new_bad P A1 A2 A3 A4 A5 A6 n1 c1 n2 c2 n3 c3 n4 c4 n5 c5 n6 c6 N W NW.out GW.out JJ.out).mono ?_
    rintro r w5 ⟨v, rfl, he, hne, hb5⟩
    rw [← HJ1.out, ← HJ2.out] at he
    have E5 := Lib.hid he
    have B5 := Lib.hid hb5
    have hk := Lib.hid (grown_blk (grown_below none B5.out) HFC.out (by simp))
    clear r0 r1 r2 r3 r4 r5 r6 he hne hb5
    obtain ⟨f0, f1⟩ : w5.cell? ⟨gf, 0, none⟩ = some (.int .i64 J1) ∧ w5.cell? ⟨gf, 1, none⟩ = some (.int .i64 J2) := by
      constructor <;> simp [World.cell?, hk.out]
    go_wp2_with fail
    have HI := Lib.hid (is_any v J1 J2 J1 J2 w5 (GW.out.up B5.out) E5.out)
    rw [beq_self_eq_true, beq_self_eq_true] at HI
    refine HI.out.mono ?_
    rintro r w6 ⟨rfl, hb6⟩
    have B6 := Lib.hid (B5.out.trans (hb6.mono B5.out.size))
    have E6 := Lib.hid (E5.out.up hb6)
    have hk6 := Lib.hid (grown_blk (grown_below none hb6) hk.out (by simp))
    clear f0 f1 hb6 HI
    obtain ⟨f0, f1⟩ : w6.cell? ⟨gf, 0, none⟩ = some (.int .i64 J1) ∧ w6.cell? ⟨gf, 1, none⟩ = some (.int .i64 J2) := by
      constructor <;> simp [World.cell?, hk6.out]
    have g0 := cell_up B6.out FFW.out.1
    have g1 := cell_up B6.out FFW.out.2
    go_wp2_with fail
    have HI := Lib.hid (is_any v J1 J2 J1 J2 w6 (GW.out.up B6.out) E6.out)
    rw [beq_self_eq_true, beq_self_eq_true] at HI
    refine HI.out.mono ?_
    rintro r w7 ⟨rfl, hb7⟩
    have B7 := Lib.hid (BW.out.trans ((B6.out.trans (hb7.mono B6.out.size)).mono BW.out.size))
    clear hb7
    go_wp2_with fail
    go_ret
    exact ⟨rfl, B7.out⟩
end Go.Proofs.YtgglbjniclkkpaaDoor

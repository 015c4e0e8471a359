/-
  The law NetForgets: the walk.
-/
import Derived.Test.YtgglbjniclkkpaaDoorCoded
namespace Go.Proofs.YtgglbjniclkkpaaDoor
open Go.RowKit
set_option linter.unusedVariables false

set_option maxRecDepth 100000 in
set_option maxHeartbeats 4000000 in
theorem forgets_no (P : Int) (A1 A2 A3 A4 A5 A6 : Option Addr) (n1 c1 n2 c2 n3 c3 n4 c4 n5 c5 n6 c6 : Nat) (AX AY : Option Addr) (na ca nb cb : Nat) (w : World) (hh : ¬ (heldB P n1 n2 n3 n4 n5 n6 = true ∧ na ≤ 30 ∧ nb ≤ 30)) :
    Calls Tryd.prog 6 #[.agg #[.int .i64 P, .slice A1 n1 c1, .slice A2 n2 c2, .slice A3 n3 c3, .slice A4 n4 c4, .slice A5 n5 c5, .slice A6 n6 c6], .slice AX na ca, .slice AY nb cb] w fun r w' => r = .returned (.bool true) ∧ Below w.heap.size w w' := by
  have HH := Lib.hid (heldK_any P A1 A2 A3 A4 A5 A6 n1 c1 n2 c2 n3 c3 n4 c4 n5 c5 n6 c6 (w.alloc (.cells #[.int .i64 P, .slice A1 n1 c1, .slice A2 n2 c2, .slice A3 n3 c3, .slice A4 n4 c4, .slice A5 n5 c5, .slice A6 n6 c6] 26)))
  have HB := Lib.hid ((Below.refl w.heap.size w).alloc (Nat.le_refl _) (Obj.cells #[.int .i64 P, .slice A1 n1 c1, .slice A2 n2 c2, .slice A3 n3 c3, .slice A4 n4 c4, .slice A5 n5 c5, .slice A6 n6 c6] 26))
  by_cases h1 : heldB P n1 n2 n3 n4 n5 n6 = true
  · rw [h1] at HH
    by_cases h2 : na ≤ 30
    · have h2' : decide ((30 : Int) < (na : Int)) = false := by simp; omega
      have h3' : (30 : Int) < (nb : Int) := by
        have : ¬ nb ≤ 30 := fun h => hh ⟨h1, h2, h⟩
        omega
      clear hh h1 h2
      go_enter Tryd.func6, Tryd.ntmps6
      go_wp2_with (go_at_call 21; refine HH.out.mono ?_; rintro r w1 ⟨rfl, hb1⟩)
      go_ret
      exact ⟨rfl, below_up HB.out hb1⟩
    · have h2' : (30 : Int) < (na : Int) := by omega
      clear hh h1 h2
      go_enter Tryd.func6, Tryd.ntmps6
      go_wp2_with (go_at_call 21; refine HH.out.mono ?_; rintro r w1 ⟨rfl, hb1⟩)
      go_ret
      exact ⟨rfl, below_up HB.out hb1⟩
  · rw [Bool.eq_false_iff.2 h1] at HH
    clear hh h1
    go_enter Tryd.func6, Tryd.ntmps6
    go_wp2_with (go_at_call 21; refine HH.out.mono ?_; rintro r w1 ⟨rfl, hb1⟩)
    go_ret
    exact ⟨rfl, below_up HB.out hb1⟩
/-- Two machines of one code, side by side. -/
structure Two (W w : World) (m gm : Nat) (AM : Option Addr) (cM : Nat) (q gq : Nat) (AQ : Option Addr) (cQ : Nat) (NC : List Value) (p : Nat) (VM VQ : List Int) (K : List Bool) : Prop where
  M : MSt W w m gm NC AM p cM VM K
  Q : MSt W w q gq NC AQ p cQ VQ K
  mq : (Value.slice AQ p cQ).ownBlock = none ∨ (Value.slice AQ p cQ).ownBlock ≠ (Value.slice AM p cM).ownBlock
  qm : (Value.slice AM p cM).ownBlock = none ∨ (Value.slice AM p cM).ownBlock ≠ (Value.slice AQ p cQ).ownBlock
section
variable {W w : World} {A1 A2 A3 A4 A5 A6 : Option Addr} {n1 c1 n2 c2 n3 c3 n4 c4 n5 c5 n6 c6 : Nat} {N : NetP} {m gm : Nat} {AM : Option Addr} {cM : Nat} {q gq : Nat} {AQ : Option Addr} {cQ : Nat} {VM VQ : List Int} {AI : Option Addr} {ni ci : Nat} {I : List Int}
theorem Two.tickM (hnet : NetAt W n1 A1 A2 A3 A4 A5 A6 n1 c1 n2 c2 n3 c3 n4 c4 n5 c5 n6 c6 N) (hgood : GoodNet n1 N) (T : Two W w m gm AM cM q gq AQ cQ [.int .i64 n1, .slice A1 n1 c1, .slice A2 n2 c2, .slice A3 n3 c3, .slice A4 n4 c4, .slice A5 n5 c5, .slice A6 n6 c6] n1 VM VQ (List.replicate n1 false)) (hi : IntsAt W AI ni I) (hni : ni ≤ 4000) :
    Calls Tryd.prog 26 #[.pointer (some ⟨m, 0, none⟩), .slice AI ni ci] w fun r w' => ∃ A c, r = .returned (.slice A n3 c) ∧ w'.ownsRow w.heap.size 2 1 (.slice A n3 c) n3 ((tickV N (List.replicate n1 false) I VM).1.map (Value.int .i64)) ∧ Two W w' m gm AM cM q gq AQ cQ [.int .i64 n1, .slice A1 n1 c1, .slice A2 n2 c2, .slice A3 n3 c3, .slice A4 n4 c4, .slice A5 n5 c5, .slice A6 n6 c6] n1 (List.replicate n1 0) VQ (List.replicate n1 false) ∧ w.grownBy w' (Value.slice AM n1 cM).ownBlock :=
  (tick_any W A1 A2 A3 A4 A5 A6 n1 c1 n2 c2 n3 c3 n4 c4 n5 c5 n6 c6 N hnet hgood m gm AM cM VM _ AI ni ci I hi hni w T.M).mono fun r w' ⟨A, n, c, e, ho, hS, hgr⟩ => by
    obtain rfl : n3 = n := (own_ints ho).1
    rw [tick_zero N I VM T.M.len] at hS
    exact ⟨A, c, e, ho, ⟨hS, T.Q.beside T.M.vs T.mq hgr, T.mq, T.qm⟩, hgr⟩
theorem Two.tickQ (hnet : NetAt W n1 A1 A2 A3 A4 A5 A6 n1 c1 n2 c2 n3 c3 n4 c4 n5 c5 n6 c6 N) (hgood : GoodNet n1 N) (T : Two W w m gm AM cM q gq AQ cQ [.int .i64 n1, .slice A1 n1 c1, .slice A2 n2 c2, .slice A3 n3 c3, .slice A4 n4 c4, .slice A5 n5 c5, .slice A6 n6 c6] n1 VM VQ (List.replicate n1 false)) (hi : IntsAt W AI ni I) (hni : ni ≤ 4000) :
    Calls Tryd.prog 26 #[.pointer (some ⟨q, 0, none⟩), .slice AI ni ci] w fun r w' => ∃ A c, r = .returned (.slice A n3 c) ∧ w'.ownsRow w.heap.size 2 1 (.slice A n3 c) n3 ((tickV N (List.replicate n1 false) I VQ).1.map (Value.int .i64)) ∧ Two W w' m gm AM cM q gq AQ cQ [.int .i64 n1, .slice A1 n1 c1, .slice A2 n2 c2, .slice A3 n3 c3, .slice A4 n4 c4, .slice A5 n5 c5, .slice A6 n6 c6] n1 VM (List.replicate n1 0) (List.replicate n1 false) ∧ w.grownBy w' (Value.slice AQ n1 cQ).ownBlock :=
  (tick_any W A1 A2 A3 A4 A5 A6 n1 c1 n2 c2 n3 c3 n4 c4 n5 c5 n6 c6 N hnet hgood q gq AQ cQ VQ _ AI ni ci I hi hni w T.Q).mono fun r w' ⟨A, n, c, e, ho, hS, hgr⟩ => by
    obtain rfl : n3 = n := (own_ints ho).1
    rw [tick_zero N I VQ T.Q.len] at hS
    exact ⟨A, c, e, ho, ⟨T.M.beside T.Q.vs T.qm hgr, hS, T.mq, T.qm⟩, hgr⟩
theorem Two.grow {W w w' : World} {NC : List Value} {p : Nat} {K : List Bool} (T : Two W w m gm AM cM q gq AQ cQ NC p VM VQ K) (hb : Below w.heap.size w w') : Two W w' m gm AM cM q gq AQ cQ NC p VM VQ K := ⟨T.M.grow hb, T.Q.grow hb, T.mq, T.qm⟩
theorem row_grow {w w' : World} {B n : Nat} {e : TypeId} {v : Value} {xs : List Value} (h : w.ownsRow B e 1 v n xs) (hb : Below w.heap.size w w') : w'.ownsRow B e 1 v n xs := h.kept (grown_below none hb) (by cases v.ownBlock <;> simp)
end
theorem newK {W : World} {P : Int} {A1 A2 A3 A4 A5 A6 : Option Addr} {n1 c1 n2 c2 n3 c3 n4 c4 n5 c5 n6 c6 : Nat} {N : NetP} (h : NetAt W P A1 A2 A3 A4 A5 A6 n1 c1 n2 c2 n3 c3 n4 c4 n5 c5 n6 c6 N) : NetAt W P A1 A2 A3 none A5 A6 n1 c1 n2 c2 n3 c3 0 0 n5 c5 n6 c6 ⟨N.places, N.first, N.ins, N.outs, [], N.nums, N.code⟩ :=
  ⟨h.hp, h.i1, h.i2, h.i3, IntsAt.nil _ _, h.i5, h.i6, h.p0, h.b1, h.b2, h.b3, by decide, h.b5, h.b6, h.k2⟩
set_option maxRecDepth 100000 in
set_option maxHeartbeats 16000000 in
theorem forgets_yes (P : Int) (A1 A2 A3 A4 A5 A6 : Option Addr) (n1 c1 n2 c2 n3 c3 n4 c4 n5 c5 n6 c6 : Nat) (N : NetP) (AX AY : Option Addr) (na ca nb cb : Nat) (X Y : List Int) (w : World) (h : NetAt w P A1 A2 A3 A4 A5 A6 n1 c1 n2 c2 n3 c3 n4 c4 n5 c5 n6 c6 N) (hg : HandleAt w) (hX : IntsAt w AX na X) (hY : IntsAt w AY nb Y) (hh : heldB P n1 n2 n3 n4 n5 n6 = true) (ha : na ≤ 30) (hb : nb ≤ 30) :
    Calls Tryd.prog 6 #[.agg #[.int .i64 P, .slice A1 n1 c1, .slice A2 n2 c2, .slice A3 n3 c3, .slice A4 n4 c4, .slice A5 n5 c5, .slice A6 n6 c6], .slice AX na ca, .slice AY nb cb] w fun r w' => r = .returned (.bool true) ∧ Below w.heap.size w w' := by
  have HH := Lib.hid (heldK_any P A1 A2 A3 A4 A5 A6 n1 c1 n2 c2 n3 c3 n4 c4 n5 c5 n6 c6 (w.alloc (.cells #[.int .i64 P, .slice A1 n1 c1, .slice A2 n2 c2, .slice A3 n3 c3, .slice A4 n4 c4, .slice A5 n5 c5, .slice A6 n6 c6] 26)))
  rw [hh] at HH
  have HB := Lib.hid ((Below.refl w.heap.size w).alloc (Nat.le_refl _) (Obj.cells #[.int .i64 P, .slice A1 n1 c1, .slice A2 n2 c2, .slice A3 n3 c3, .slice A4 n4 c4, .slice A5 n5 c5, .slice A6 n6 c6] 26))
  have HX0 := Lib.hid (heap_alloc_new w (Obj.cells #[.int .i64 P, .slice A1 n1 c1, .slice A2 n2 c2, .slice A3 n3 c3, .slice A4 n4 c4, .slice A5 n5 c5, .slice A6 n6 c6] 26))
  have h2' : decide ((30 : Int) < (na : Int)) = false := by simp; omega
  have h3' : decide ((30 : Int) < (nb : Int)) = false := by simp; omega
  have H := Lib.hid h
  have HG := Lib.hid hg
  have HX := Lib.hid hX
  have HY := Lib.hid hY
  clear h hg hX hY hh
  go_enter Tryd.func6, Tryd.ntmps6
  go_wp2_with (go_at_call 21; refine HH.out.mono ?_; rintro r w1 ⟨rfl, hb1⟩)
  refine (coded_any w1 (HG.out.up (below_up HB.out hb1))).mono ?_
  rintro r w2 ⟨rfl, hb2⟩
  have hx2 := grown_blk (grown_below none (below_up hb1 hb2)) HX0.out (by simp)
  have B2 := Lib.hid (below_up HB.out (below_up hb1 hb2))
  have HX2 := Lib.hid hx2
  obtain ⟨r0, r1, r2, r3, r4, r5, r6⟩ := net_cells hx2
  have rf := blk_free hx2
  clear hb1 hb2 hx2 HB HH HX0
  go_upto_region 6 with fail
  obtain ⟨W, hW⟩ : ∃ W, W = w2.setCell ⟨w.heap.size, 4, none⟩ (.slice none 0 0) := ⟨_, rfl⟩
  have hbx : W.heap[w.heap.size]? = some (.cells #[.int .i64 P, .slice A1 n1 c1, .slice A2 n2 c2, .slice A3 n3 c3, .slice none 0 0, .slice A5 n5 c5, .slice A6 n6 c6] 26 (0, 0)) := by rw [hW]; exact set_block HX2.out
  have hBW : Below w.heap.size w W := by rw [hW]; exact below_grow B2.out (set_grown _ _ _ _) (Nat.le_refl _)
  rw [← hW]
  have HBX := Lib.hid hbx
  have BW := Lib.hid hBW
  have NW := Lib.hid (newK (H.out.up hBW))
  have XW := Lib.hid (HX.out.up hBW)
  have YW := Lib.hid (HY.out.up hBW)
  have GW := Lib.hid (HG.out.up hBW)
  clear r0 r1 r2 r3 r4 r5 r6 rf hW hBW HX2 B2
  obtain ⟨r0, r1, r2, r3, r4, r5, r6⟩ := net_cells hbx
  clear hbx
  obtain ⟨N', hN'⟩ : ∃ N' : NetP, N' = ⟨N.places, N.first, N.ins, N.outs, [], N.nums, N.code⟩ := ⟨_, rfl⟩
  rw [← hN'] at NW
  have hkeeps : N'.keeps = [] := by rw [hN']
  clear hN'
  by_cases hj : (judgeV N').1 = 0
  · have JJ := Lib.hid (judge_ok hj)
    obtain ⟨hpl, hgood⟩ := good_net JJ.out
    have l1 := NW.out.i1.1
    have hP : P = (n1 : Int) := by rw [← NW.out.hp, hpl, l1]
    subst hP
    rw [l1] at hgood
    have GD := Lib.hid hgood
    have hfl : N'.first.length = n1 := l1
    have FL := Lib.hid hfl
    clear hj hpl hgood l1 hfl
    go_wp2_with fail
    refine (new_ok n1 A1 A2 A3 none A5 A6 n1 c1 n2 c2 n3 c3 0 0 n5 c5 n6 c6 N' W NW.out GW.out JJ.out).mono ?_
    rw [hkeeps]
    rintro r w3 ⟨m, gm, AM, cM, rfl, hM⟩
    have M3 := Lib.hid hM
    have B3 := Lib.hid hM.below
    clear r0 r1 r2 r3 r4 r5 r6 hM
    obtain ⟨r0, r1, r2, r3, r4, r5, r6⟩ := net_cells (grown_blk (grown_below none B3.out) HBX.out (by simp))
    go_wp2_with fail
    refine (new_ok n1 A1 A2 A3 none A5 A6 n1 c1 n2 c2 n3 c3 0 0 n5 c5 n6 c6 N' w3 (NW.out.up B3.out) (GW.out.up B3.out) JJ.out).mono ?_
    rw [hkeeps]
    rintro r w4 ⟨q, gq, AQ, cQ, rfl, hQ⟩
    have HMB : Hid (∀ x, (Value.slice AM n1 cM).ownBlock = some x → x < w3.heap.size) := Lib.hid fun x e => (own_lt' M3.out.vs x e).2
    have HQB : Hid (∀ x, (Value.slice AQ n1 cQ).ownBlock = some x → w3.heap.size ≤ x ∧ x < w4.heap.size) := Lib.hid fun x e => own_lt' hQ.vs x e
    have HM4 : Hid (∀ x, (Value.slice AM n1 cM).ownBlock = some x → x < w4.heap.size) := Lib.hid fun x e => Nat.lt_of_lt_of_le (HMB.out x e) hQ.below.size
    have HQ4 : Hid (∀ x, (Value.slice AQ n1 cQ).ownBlock = some x → x < w4.heap.size) := Lib.hid fun x e => (HQB.out x e).2
    have SZw4 : Hid (w4.heap.size ≤ w4.heap.size) := Lib.hid (Nat.le_refl _)
    have T4 : Hid (Two W w4 m gm AM cM q gq AQ cQ [.int .i64 n1, .slice A1 n1 c1, .slice A2 n2 c2, .slice A3 n3 c3, .slice none 0 0, .slice A5 n5 c5, .slice A6 n6 c6] n1 N'.first N'.first (List.replicate n1 false)) := Lib.hid ⟨M3.out.grow hQ.below, hQ.rebase B3.out, by
      rcases hv : (Value.slice AQ n1 cQ).ownBlock with _ | y
      · exact .inl rfl
      · exact .inr fun e => by have h1 := HMB.out y e.symm; have h2 := (HQB.out y hv).1; omega, by
      rcases hv : (Value.slice AM n1 cM).ownBlock with _ | y
      · exact .inl rfl
      · exact .inr fun e => by have h1 := HMB.out y hv; have h2 := (HQB.out y e.symm).1; omega⟩
    clear hQ r0 r1 r2 r4 r5 r6 M3
    go_wp2_with fail
    refine (Two.tickM NW.out GD.out T4.out XW.out (by omega)).mono ?_
    rintro r w5 ⟨R1, dR1, rfl, ho, hT, hgr⟩
    have OA1 := Lib.hid ho
    have T5 := Lib.hid hT
    have SZw5 : Hid (w4.heap.size ≤ w5.heap.size) := Lib.hid (Nat.le_trans SZw4.out hgr.size)
    clear ho hT hgr
    go_wp2_with fail
    refine (Two.tickQ NW.out GD.out T5.out XW.out (by omega)).mono ?_
    rintro r w6 ⟨R2, dR2, rfl, ho, hT, hgr⟩
    have OA2 := Lib.hid ho
    have T6 := Lib.hid hT
    have SZw6 : Hid (w4.heap.size ≤ w6.heap.size) := Lib.hid (Nat.le_trans SZw5.out hgr.size)
    have OA3 := Lib.hid (row_kept OA1.out hgr (fun x e => Nat.lt_of_lt_of_le (HQ4.out x e) SZw4.out))
    clear OA1
    clear ho hT hgr
    go_wp2_with fail
    refine (sameNumsK_any _ _ _ _ _ _ _ _ _ (own_ints OA3.out).2.1 (own_ints OA2.out).2.1 (by have := NW.out.b3; omega)).mono ?_
    rintro r w7 ⟨rfl, hb⟩
    rw [sameB_refl]
    have T7 := Lib.hid (T6.out.grow hb)
    have SZw7 : Hid (w4.heap.size ≤ w7.heap.size) := Lib.hid (Nat.le_trans SZw6.out hb.size)
    clear hb
    go_wp2_with fail
    refine (Two.tickM NW.out GD.out T7.out YW.out (by omega)).mono ?_
    rintro r w8 ⟨RX, dRX, rfl, ho, hT, hgr⟩
    have OX := Lib.hid ho
    have T8 := Lib.hid hT
    have SZw8 : Hid (w4.heap.size ≤ w8.heap.size) := Lib.hid (Nat.le_trans SZw7.out hgr.size)
    clear ho hT hgr
    clear OA2 OA3
    go_wp2_with fail
    go_loopw [12] (fun i wr => ∃ k : Nat, k ≤ 3 ∧ i = .int .i64 k ∧ Hid (Two W wr m gm AM cM q gq AQ cQ [.int .i64 n1, .slice A1 n1 c1, .slice A2 n2 c2, .slice A3 n3 c3, .slice none 0 0, .slice A5 n5 c5, .slice A6 n6 c6] n1 (List.replicate n1 0) (List.replicate n1 0) (List.replicate n1 false)) ∧ Hid (wr.ownsRow w7.heap.size 2 1 (.slice RX n3 dRX) n3 ((tickV N' (List.replicate n1 false) Y (List.replicate n1 0)).1.map (Value.int .i64))) ∧ Hid (w4.heap.size ≤ wr.heap.size)) (fun i _ => 3 - (intOf i).toNat)
    case atStart => exact ⟨0, by omega, rfl, T8, OX, SZw8⟩
    case round =>
      clear T8 OX
      obtain ⟨k, hk, rfl, T9, OX, SZwr⟩ := hrel
      by_cases hlt : k < 3
      · have hlt' : (k : Int) < 3 := by omega
        go_wp2_with fail
        refine (Two.tickM NW.out GD.out T9.out XW.out (by omega)).mono ?_
        rintro r w9 ⟨RD, dRD, rfl, ho, hT, hgr⟩
        have OD := Lib.hid ho
        have T10 := Lib.hid hT
        have SZw9 : Hid (w4.heap.size ≤ w9.heap.size) := Lib.hid (Nat.le_trans SZwr.out hgr.size)
        have OX2 := Lib.hid (row_kept OX.out hgr (fun x e => Nat.lt_of_lt_of_le (HM4.out x e) SZw7.out))
        clear OX
        clear ho hT hgr
        clear OD
        go_wp2_with fail
        go_roundw
        case rel => exact ⟨k + 1, by omega, by go_num, T10, OX2, SZw9⟩
        case measure => simp [intOf]; omega
      · have hlt' : ¬ (k : Int) < 3 := by omega
        go_wp2_with fail
        refine (Two.tickM NW.out GD.out T9.out YW.out (by omega)).mono ?_
        rintro r w9 ⟨RY, dRY, rfl, ho, hT, hgr⟩
        have OY := Lib.hid ho
        have T10 := Lib.hid hT
        have SZw9 : Hid (w4.heap.size ≤ w9.heap.size) := Lib.hid (Nat.le_trans SZwr.out hgr.size)
        have OX2 := Lib.hid (row_kept OX.out hgr (fun x e => Nat.lt_of_lt_of_le (HM4.out x e) SZw7.out))
        clear OX
        clear ho hT hgr
        go_wp2_with fail
        refine (sameNumsK_any _ _ _ _ _ _ _ _ _ (own_ints OY.out).2.1 (own_ints OX2.out).2.1 (by have := NW.out.b3; omega)).mono ?_
        rintro r w10 ⟨rfl, hb⟩
        rw [sameB_refl]
        have T11 := Lib.hid (T10.out.grow hb)
        have SZw10 : Hid (w4.heap.size ≤ w10.heap.size) := Lib.hid (Nat.le_trans SZw9.out hb.size)
        have OX3 := Lib.hid (row_grow OX2.out hb)
        clear OX2
        clear hb
        go_wp2_with fail
        refine (Two.tickQ NW.out GD.out T11.out YW.out (by omega)).mono ?_
        rintro r w11 ⟨RZ, dRZ, rfl, ho, hT, hgr⟩
        have OZ := Lib.hid ho
        have T12 := Lib.hid hT
        have SZw11 : Hid (w4.heap.size ≤ w11.heap.size) := Lib.hid (Nat.le_trans SZw10.out hgr.size)
        have OX4 := Lib.hid (row_kept OX3.out hgr (fun x e => Nat.lt_of_lt_of_le (HQ4.out x e) SZw7.out))
        clear OX3
        clear ho hT hgr
        go_wp2_with fail
        refine (sameNumsK_any _ _ _ _ _ _ _ _ _ (own_ints OZ.out).2.1 (own_ints OX4.out).2.1 (by have := NW.out.b3; omega)).mono ?_
        rintro r w12 ⟨rfl, hb⟩
        rw [sameB_refl]
        have T13 := Lib.hid (T12.out.grow hb)
        have SZw12 : Hid (w4.heap.size ≤ w12.heap.size) := Lib.hid (Nat.le_trans SZw11.out hb.size)
        clear hb
        obtain ⟨z0, z1, z2, z3, z4, z5, z6⟩ := net_cells (grown_blk (grown_below none T13.out.M.below) HBX.out (by simp))
        have BF := Lib.hid (BW.out.trans (T13.out.M.below.mono BW.out.size))
        go_wp2_with fail
        go_ret
        exact ⟨rfl, BF.out⟩
  · have JJ := Lib.hid hj
    clear hj
    go_wp2_with fail
    refine (new_bad P A1 A2 A3 none A5 A6 n1 c1 n2 c2 n3 c3 0 0 n5 c5 n6 c6 N' W NW.out GW.out JJ.out).mono ?_
    rintro r w3 ⟨v1, rfl, he1, hn1, hb3⟩
    have E1 := Lib.hid he1
    have B3 := Lib.hid hb3
    clear r0 r1 r2 r3 r4 r5 r6 hb3
    obtain ⟨r0, r1, r2, r3, r4, r5, r6⟩ := net_cells (grown_blk (grown_below none B3.out) HBX.out (by simp))
    go_wp2_with fail
    refine (new_bad P A1 A2 A3 none A5 A6 n1 c1 n2 c2 n3 c3 0 0 n5 c5 n6 c6 N' w3 (NW.out.up B3.out) (GW.out.up B3.out) JJ.out).mono ?_
    rintro r w4 ⟨v2, rfl, he2, hn2, hb4⟩
    have E2 := Lib.hid he2
    have B4 := Lib.hid (B3.out.trans (hb4.mono B3.out.size))
    have E3 := Lib.hid (E1.out.up hb4)
    clear he2 hn2 hb4 r0 r1 r2 r3 r4 r5 r6
    have go : ∀ v, v = v1 → True := fun _ _ => trivial
    rcases he1 with ⟨rfl, _, _⟩ | ⟨rfl, _, _⟩ | ⟨eb, rfl, _, _, _⟩
    · exact absurd rfl hn1
    all_goals
      clear hn1 go
      go_wp2_with fail
      refine (tell_any _ _ _ w4 (GW.out.up B4.out) E3.out).mono ?_
      rintro r w5 ⟨rfl, hb5⟩
      have B5 := Lib.hid (B4.out.trans (hb5.mono B4.out.size))
      have E4 := Lib.hid (E2.out.up hb5)
      clear hb5
      go_wp2_with fail
      refine (tell_any _ _ _ w5 (GW.out.up B5.out) E4.out).mono ?_
      rintro r w6 ⟨rfl, hb6⟩
      have B6 := Lib.hid (BW.out.trans ((B5.out.trans (hb6.mono B5.out.size)).mono BW.out.size))
      clear hb6
      go_wp2_with fail
      go_ret
      exact ⟨ret_bool (by simp), B6.out⟩
end Go.Proofs.YtgglbjniclkkpaaDoor

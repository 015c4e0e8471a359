/-
  net.New and Tick for code of up to 4000 places.
-/
import Derived.Test.YtgglbjniclkkpaaDoorTick
import Derived.Deep.AppendLies
import Derived.Deep.RegionHeld3
import Derived.Test.YtgglbjniclkkpaaDoorCheckL
namespace Go.Proofs.YtgglbjniclkkpaaDoor
open Go.RowKit
set_option linter.unusedVariables false

set_option maxHeartbeats 4000000 in
set_option maxRecDepth 100000 in
theorem new_okL (P : Int) (A1 A2 A3 A4 A5 A6 : Option Addr) (n1 c1 n2 c2 n3 c3 n4 c4 n5 c5 n6 c6 : Nat) (N : NetP) (w : World) (h : NetAtL w P A1 A2 A3 A4 A5 A6 n1 c1 n2 c2 n3 c3 n4 c4 n5 c5 n6 c6 N) (hg : HandleAt w) (hj : judgeV N = (0, -1)) :
    Calls Tryd.prog 23 #[.agg #[.int .i64 P, .slice A1 n1 c1, .slice A2 n2 c2, .slice A3 n3 c3, .slice A4 n4 c4, .slice A5 n5 c5, .slice A6 n6 c6]] w fun r w' => ∃ m gk AV cV, r = .returned (.tuple #[.pointer (some ⟨m, 0, none⟩), .nilIface]) ∧
      MSt w w' m gk [.int .i64 P, .slice A1 n1 c1, .slice A2 n2 c2, .slice A3 n3 c3, .slice A4 n4 c4, .slice A5 n5 c5, .slice A6 n6 c6] AV n1 cV N.first (kpV N.keeps (List.replicate n1 false)) := by
  obtain ⟨i0, hi0, hz0, hz1, hz2⟩ := info_parts infoB
  obtain ⟨hpl, hgood⟩ := good_net hj
  have l1 := h.i1.1
  have l4 := h.i4.1
  have b1 := h.b1
  have b4 := h.b4
  have hP : P = (n1 : Int) := by rw [← h.hp, hpl, l1]
  subst hP
  rw [l1] at hgood
  have HK := Lib.hid hgood.keeps
  have H := Lib.hid h
  have HN := Lib.hid (fun w2 => ncells n1 A1 A2 A3 A4 A5 A6 n1 c1 n2 c2 n3 c3 n4 c4 n5 c5 n6 c6 w w2)
  have HB := Lib.hid ((Below.refl w.heap.size w).alloc (Nat.le_refl _) (Obj.cells #[.int .i64 n1, .slice A1 n1 c1, .slice A2 n2 c2, .slice A3 n3 c3, .slice A4 n4 c4, .slice A5 n5 c5, .slice A6 n6 c6] 26))
  have HC := Lib.hid (check_anyL n1 A1 A2 A3 A4 A5 A6 n1 c1 n2 c2 n3 c3 n4 c4 n5 c5 n6 c6 N (w.alloc (.cells #[.int .i64 n1, .slice A1 n1 c1, .slice A2 n2 c2, .slice A3 n3 c3, .slice A4 n4 c4, .slice A5 n5 c5, .slice A6 n6 c6] 26)) (h.up HB.out) (hg.up HB.out))
  have JJ := Lib.hid hj
  have hmk : ∀ W : World, (Instr.makeSlice 108 (.int .i64 n1) (.int .i64 n1)).run Tryd.prog W = .ok (.slice (some ⟨W.heap.size, 0, none⟩) n1 n1) (W.alloc (.cells ((List.replicate n1 false).map Value.bool).toArray 4)) := fun W => by
    have hr := run_make (P := Tryd.prog) W 108 4 i0 (.bool false) Tryd.underlying108 hi0 hz0 .i64 .i64 n1 n1 (by omega) (Int.le_refl _) (by rw [hz2]; omega) (by omega)
    rw [hr]
    simp only [Int.toNat_natCast, hz1]
    rw [show (Value.bool false).cells = #[Value.bool false] from rfl, made_bools]
  clear h hg hj hpl hgood l1
  go_enter Tryd.func23, Tryd.ntmps23
  go_wp2_with fail
  refine HC.out.mono ?_
  rintro r w1 ⟨v, rfl, herr, hb1⟩
  have hv : v = .nilIface := by
    rw [JJ.out] at herr
    exact herr.nil
  subst hv
  have B1 := Lib.hid hb1
  clear hb1 herr
  obtain ⟨z0, z1, z2, z3, z4, z5, z6⟩ := HN.out w1 B1.out
  have b0 := Lib.hid (Below.refl w1.heap.size w1)
  have HW1 : Hid (w.heap.size ≤ w1.heap.size) := Lib.hid (by have h1 := HB.out.size; have h2 := B1.out.size; omega)
  go_upto_region 4 with fail
  go_cut [5] from 5 to 21 (fun t5 wx => ∃ m gk AV cV, t5 = .pointer (some ⟨m, 0, none⟩) ∧ Below w1.heap.size w1 wx ∧ Hid (MSt w wx m gk [.int .i64 n1, .slice A1 n1 c1, .slice A2 n2 c2, .slice A3 n3 c3, .slice A4 n4 c4, .slice A5 n5 c5, .slice A6 n6 c6] AV n1 cV N.first (List.replicate n1 false)))
  case first =>
    go_region_held3 (fun W => W.cell? ⟨w.heap.size, 0, none⟩ = some (.int .i64 n1) ∧ W.cell? ⟨w.heap.size, 1, none⟩ = some (.slice A1 n1 c1) ∧ W.cell? ⟨w.heap.size, 2, none⟩ = some (.slice A2 n2 c2) ∧ W.cell? ⟨w.heap.size, 3, none⟩ = some (.slice A3 n3 c3) ∧ W.cell? ⟨w.heap.size, 4, none⟩ = some (.slice A4 n4 c4) ∧ W.cell? ⟨w.heap.size, 5, none⟩ = some (.slice A5 n5 c5) ∧ W.cell? ⟨w.heap.size, 6, none⟩ = some (.slice A6 n6 c6) ∧ Below w1.heap.size w1 W)
      ((first | exact ⟨z0, z1, z2, z3, z4, z5, z6, b0.out.drew⟩ | assumption | exact keepN (by assumption) (by assumption) | exact keepN (by assumption) ((Below.refl _ _).alloc (Nat.le_refl _) _)))
      (first | (go_at_call 62; refine (clone_any A1 n1 c1 N.first _ (H.out.i1.up (HB.out.trans ((below_up B1.out (pickN (by assumption))).mono HB.out.size))) (by omega)).mono ?_; rintro r w2 ⟨AV, cV, rfl, hown, hb2⟩))
    all_goals
      go_wp2_with fail
      go_meet
      case rel => first | exact ⟨w2.heap.size + 1, w2.heap.size, AV, cV, rfl, below_a hb2 _ _, Lib.hid (MSt.first (HB.out.trans ((below_up B1.out ((Below.refl w1.heap.size w1).drew.trans hb2)).mono HB.out.size)) hown HW1.out)⟩ | exact ⟨w2.heap.size, w1.heap.size, AV, cV, rfl, below_b hb2 _, Lib.hid (MSt.second (w1 := w1.drew) (HB.out.trans (B1.out.mono HB.out.size)).drew hb2 hown (Nat.le_trans HW1.out (by simp)))⟩ | fail
  case rest =>
    obtain ⟨m, gk, AV, cV, rfl, hbx, M⟩ := hcut
    have d4 := cell_up hbx z4
    clear hbx z0 z1 z2 z3 z4 z5 z6
    go_wp2_with fail
    go_loopw [25] (fun i wr => ∃ (k : Nat) (K : List Bool), k ≤ n4 ∧ i = .int .i64 k ∧ Hid (MSt w wr m gk [.int .i64 n1, .slice A1 n1 c1, .slice A2 n2 c2, .slice A3 n3 c3, .slice A4 n4 c4, .slice A5 n5 c5, .slice A6 n6 c6] AV n1 cV N.first K) ∧ Hid (kpV (N.keeps.drop k) K = kpV N.keeps (List.replicate n1 false))) (fun i _ => n4 - (intOf i).toNat)
    case atStart => exact ⟨0, _, Nat.zero_le _, rfl, M, Lib.hid rfl⟩
    case round =>
      obtain ⟨k, K, hk, rfl, S, F⟩ := hrel
      clear d4 M
      by_cases hlt : k < n4
      · have I := H.out.i4.up S.out.below
        obtain ⟨b, o, rfl, hc⟩ := I.2 (by omega)
        have hck := hc k hlt
        have hd := I.drop_cons hlt
        have hm : N.keeps.getD k 0 ∈ N.keeps := by
          have hkl : k < N.keeps.length := by omega
          rw [List.getD_eq_getElem?_getD, List.getElem?_eq_getElem hkl]
          exact List.getElem_mem hkl
        obtain ⟨q, hq⟩ := Int.eq_ofNat_of_zero_le (HK.out _ hm).1
        have hq2 : q < n1 := by have := (HK.out _ hm).2; omega
        have hq3 : (q : Int) < (n1 : Int) := by omega
        rw [hq] at hck hd
        have F2 : Hid (kpV (N.keeps.drop (k + 1)) (K.set q true) = kpV N.keeps (List.replicate n1 false)) := Lib.hid (by have h := F.out; rw [hd, kpV] at h; exact h)
        obtain ⟨x0, x1, x2, x3, x4, x5, x6, x7, x8⟩ := m_cells S.out.box
        obtain ⟨y0, yf, _⟩ := S.out.kcell hq2
        clear hc I hm hq hd F
        go_wp2_with fail
        go_roundw
        case rel => exact ⟨k + 1, _, by omega, by go_num, Lib.hid (S.out.keep q true), F2⟩
        case measure => simp [intOf]; omega
      · have hd := H.out.i4.drop_end (k := k) (by omega)
        have F2 : Hid (K = kpV N.keeps (List.replicate n1 false)) := Lib.hid (by have h := F.out; rw [hd] at h; exact h)
        go_wp2_with fail
        go_ret2
        exact ⟨m, gk, AV, cV, rfl, by rw [← F2.out]; exact S.out⟩
set_option maxHeartbeats 4000000 in
set_option maxRecDepth 100000 in
theorem new_badL (P : Int) (A1 A2 A3 A4 A5 A6 : Option Addr) (n1 c1 n2 c2 n3 c3 n4 c4 n5 c5 n6 c6 : Nat) (N : NetP) (w : World) (h : NetAtL w P A1 A2 A3 A4 A5 A6 n1 c1 n2 c2 n3 c3 n4 c4 n5 c5 n6 c6 N) (hg : HandleAt w) (hj : (judgeV N).1 ≠ 0) :
    Calls Tryd.prog 23 #[.agg #[.int .i64 P, .slice A1 n1 c1, .slice A2 n2 c2, .slice A3 n3 c3, .slice A4 n4 c4, .slice A5 n5 c5, .slice A6 n6 c6]] w fun r w' => ∃ v, r = .returned (.tuple #[.pointer none, v]) ∧ ErrAt w' v (judgeV N).1 (judgeV N).2 ∧ v ≠ .nilIface ∧ Below w.heap.size w w' := by
  have H := Lib.hid h
  have HN := Lib.hid (fun w2 => ncells P A1 A2 A3 A4 A5 A6 n1 c1 n2 c2 n3 c3 n4 c4 n5 c5 n6 c6 w w2)
  have HB := Lib.hid ((Below.refl w.heap.size w).alloc (Nat.le_refl _) (Obj.cells #[.int .i64 P, .slice A1 n1 c1, .slice A2 n2 c2, .slice A3 n3 c3, .slice A4 n4 c4, .slice A5 n5 c5, .slice A6 n6 c6] 26))
  have HC := Lib.hid (check_anyL P A1 A2 A3 A4 A5 A6 n1 c1 n2 c2 n3 c3 n4 c4 n5 c5 n6 c6 N (w.alloc (.cells #[.int .i64 P, .slice A1 n1 c1, .slice A2 n2 c2, .slice A3 n3 c3, .slice A4 n4 c4, .slice A5 n5 c5, .slice A6 n6 c6] 26)) (h.up HB.out) (hg.up HB.out))
  have JJ := Lib.hid hj
  clear h hg hj
  go_enter Tryd.func23, Tryd.ntmps23
  go_wp2_with fail
  refine HC.out.mono ?_
  rintro r w1 ⟨v, rfl, herr, hb1⟩
  have B1 := Lib.hid (HB.out.trans (hb1.mono HB.out.size))
  have E := Lib.hid herr
  rcases herr with ⟨_, j1, _⟩ | ⟨rfl, j1, j2⟩ | ⟨eb, rfl, j1, j2, j3⟩
  · exact absurd j1 JJ.out
  · clear hb1 j1 j2
    go_wp2_with fail
    go_ret2
    exact ⟨_, rfl, E.out, (fun e => by cases e), B1.out⟩
  · clear hb1 j1 j2 j3
    go_wp2_with fail
    go_ret2
    exact ⟨_, rfl, E.out, (fun e => by cases e), B1.out⟩
set_option maxHeartbeats 16000000 in
set_option maxRecDepth 100000 in
theorem tick_anyL (W : World) (A1 A2 A3 A4 A5 A6 : Option Addr) (n1 c1 n2 c2 n3 c3 n4 c4 n5 c5 n6 c6 : Nat) (N : NetP) (hnet : NetAtL W n1 A1 A2 A3 A4 A5 A6 n1 c1 n2 c2 n3 c3 n4 c4 n5 c5 n6 c6 N) (hgood : GoodNet n1 N) (m gk : Nat) (AV : Option Addr) (cV : Nat) (V : List Int) (K : List Bool) (AI : Option Addr) (ni ci : Nat) (I : List Int) (hi : IntsAt W AI ni I) (hni : ni ≤ 4000) (w : World) (hm : MSt W w m gk [.int .i64 n1, .slice A1 n1 c1, .slice A2 n2 c2, .slice A3 n3 c3, .slice A4 n4 c4, .slice A5 n5 c5, .slice A6 n6 c6] AV n1 cV V K) :
    Calls Tryd.prog 26 #[.pointer (some ⟨m, 0, none⟩), .slice AI ni ci] w fun r w' => ∃ A n c, r = .returned (.slice A n c) ∧ w'.ownsRow w.heap.size 2 1 (.slice A n c) n3 ((tickV N K I V).1.map (Value.int .i64)) ∧ MSt W w' m gk [.int .i64 n1, .slice A1 n1 c1, .slice A2 n2 c2, .slice A3 n3 c3, .slice A4 n4 c4, .slice A5 n5 c5, .slice A6 n6 c6] AV n1 cV (tickV N K I V).2 K ∧ w.grownBy w' (Value.slice AV n1 cV).ownBlock := by
  obtain ⟨i0, hi0, hz0, hz1, hz2⟩ := info_parts infoN
  have l2 := hnet.i2.1
  have l3 := hnet.i3.1
  have l5 := hnet.i5.1
  have l6 := hnet.i6.1
  have b1 := hnet.b1
  have b2 := hnet.b2
  have b3 := hnet.b3
  have b5 := hnet.b5
  have b6 := hnet.b6
  have li := hi.1
  have H := Lib.hid hnet
  have HI := Lib.hid hi
  have HG := Lib.hid hgood
  have M := Lib.hid hm
  clear hnet hi hgood hm
  obtain ⟨x0, x1, x2, x3, x4, x5, x6, x7, x8⟩ := m_cells M.out.box
  go_enter Tryd.func26, Tryd.ntmps26
  go_wp2_with fail
  clear x0 x1 x2 x3 x4 x5 x6 x7 x8
  go_loopw [24] (fun i wr => ∃ (k : Nat) (V' : List Int), k ≤ n2 ∧ i = .int .i64 k ∧ Hid (MSt W wr m gk [.int .i64 n1, .slice A1 n1 c1, .slice A2 n2 c2, .slice A3 n3 c3, .slice A4 n4 c4, .slice A5 n5 c5, .slice A6 n6 c6] AV n1 cV V' K) ∧ Hid (w.grownBy wr (Value.slice AV n1 cV).ownBlock) ∧ Hid (insV I (N.ins.drop k) k V' = insV I N.ins 0 V)) (fun i _ => n2 - (intOf i).toNat)
  case atStart => exact ⟨0, V, Nat.zero_le _, rfl, M, Lib.hid (grown_refl _ _), Lib.hid rfl⟩
  case round =>
    obtain ⟨k, V', hk, rfl, S, G, F⟩ := hrel
    by_cases hlt : k < n2
    · have I2 := H.out.i2.up S.out.below
      obtain ⟨b, o, rfl, hc⟩ := I2.2 (by omega)
      have hck := hc k hlt
      have hd := I2.drop_cons hlt
      have hmm := HG.out.ins _ (getD_mem (xs := N.ins) (k := k) (by omega))
      obtain ⟨q, hq⟩ := Int.eq_ofNat_of_zero_le hmm.1
      have hq2 : q < n1 := by have := hmm.2; omega
      have hq3 : (q : Int) < (n1 : Int) := by omega
      rw [hq] at hck hd
      have F2 : Hid (insV I (N.ins.drop (k + 1)) (k + 1) (V'.set q (I.getD k 0)) = insV I N.ins 0 V) := Lib.hid (by have h := F.out; rw [hd, insV] at h; exact h)
      obtain ⟨gv, rfl, p1, p2, p3, p4, pc, pf⟩ := S.out.places (by omega)
      have pcq := pc q hq2
      have HP1 := Lib.hid p1
      clear hc I2 hmm hq hd F pc p3 p4
      by_cases hin : k < ni
      · have II := HI.out.up S.out.below
        obtain ⟨bI, oI, rfl, hcI⟩ := II.2 (by omega)
        have hci := hcI k hin
        have bIne : bI ≠ gv := by
          obtain ⟨b', o', e, h⟩ := HI.out.2 (by omega)
          cases e
          have := World.block_lt_of_cell? W _ (h k hin)
          simp at this
          omega
        have hin2 : (k : Int) < (ni : Int) := by omega
        obtain ⟨xi, hxi⟩ : ∃ x, x = I.getD k 0 := ⟨_, rfl⟩
        rw [← hxi] at hci F2
        clear hcI II hxi
        go_wp2_with fail
        go_roundw
        case rel => exact ⟨k + 1, _, by omega, by go_num, Lib.hid (by have h := (S.out.set hq2 0).set hq2 xi; rw [List.set_set] at h; exact h), Lib.hid (grown_set (grown_set G.out _) _), F2⟩
        case measure => simp [intOf]; omega
      · have hz : I.getD k 0 = 0 := by rw [List.getD_eq_getElem?_getD, List.getElem?_eq_none (by omega)]; rfl
        rw [hz] at F2
        have hin2 : ¬ (k : Int) < (ni : Int) := by omega
        go_wp2_with fail
        go_roundw
        case rel => exact ⟨k + 1, _, by omega, by go_num, Lib.hid (S.out.set hq2 0), Lib.hid (grown_set G.out _), F2⟩
        case measure => simp [intOf]; omega
    · have hd := H.out.i2.drop_end (k := k) (by omega)
      have F2 : Hid (V' = insV I N.ins 0 V) := Lib.hid (by have h := F.out; rw [hd] at h; exact h)
      obtain ⟨V1, hV1⟩ : ∃ V1, V1 = insV I N.ins 0 V := ⟨_, rfl⟩
      have HV1 := Lib.hid hV1
      have e : V' = V1 := F2.out.trans hV1.symm
      subst e
      clear F hd F2 hV1
      obtain ⟨x0, x1, x2, x3, x4, x5, x6, x7, x8⟩ := m_cells S.out.box
      go_wp2_with fail
      clear x0 x1 x2 x3 x4 x5 x6 x7 x8
      go_loopw [50] (fun i wr => ∃ (k : Nat) (V2 : List Int), k ≤ n6 ∧ i = .int .i64 k ∧ Hid (MSt W wr m gk [.int .i64 n1, .slice A1 n1 c1, .slice A2 n2 c2, .slice A3 n3 c3, .slice A4 n4 c4, .slice A5 n5 c5, .slice A6 n6 c6] AV n1 cV V2 K) ∧ Hid (w.grownBy wr (Value.slice AV n1 cV).ownBlock) ∧ Hid (runV N.nums (N.code.drop k) V2 = runV N.nums N.code V')) (fun i _ => n6 - (intOf i).toNat)
      case atStart => exact ⟨0, V', Nat.zero_le _, rfl, S, G, Lib.hid rfl⟩
      case round =>
        clear S G
        obtain ⟨j, V2, hj, rfl, S, G, F⟩ := hrel
        by_cases hlt : j < n6
        · obtain ⟨b, o, rfl, hc⟩ := (H.out.i6.up S.out.below).2 (by omega)
          obtain ⟨s, hs0, hs1, hs2, hs3, hs4, hs5⟩ := hc j hlt
          have hd := drop_step hs0
          have hgs := HG.out.code s (List.mem_of_getElem? hs0)
          obtain ⟨sc, sd, sa, sb, se⟩ := s
          simp only [] at hs1 hs2 hs3 hs4 hs5
          have F2 : Hid (runV N.nums (N.code.drop (j + 1)) (V2.set sd.toNat (valV N.nums V2 ⟨sc, sd, sa, sb, se⟩)) = runV N.nums N.code V') := Lib.hid (by have h := F.out; rw [hd, runV] at h; exact h)
          have GS := Lib.hid hgs
          obtain ⟨qd, hqd⟩ : ∃ q : Nat, sd = (q : Int) := Int.eq_ofNat_of_zero_le hgs.d.1
          have hqd2 : qd < n1 := by have : sd < (n1 : Int) := hgs.d.2; omega
          subst hqd
          have hqd3 : (qd : Int) < (n1 : Int) := by omega
          obtain ⟨gv, rfl, p1, p2, p3, p4, pc, pf⟩ := S.out.places (by omega)
          have HP1 := Lib.hid p1
          clear hc hs0 hd F hgs
          rw [Int.toNat_natCast] at F2
          have hb5 := (Below.refl wr.heap.size wr).alloc (Nat.le_refl _) (Obj.cells #[.int .i64 sc, .int .i64 qd, .int .i64 sa, .int .i64 sb, .int .i64 se] 31)
          have S5 := Lib.hid (S.out.grow hb5)
          have G5 := Lib.hid (grown_below2 G.out hb5)
          go_upto_region 12 with fail
          obtain ⟨gx, hgx⟩ : ∃ gx, gx = wr.heap.size := ⟨_, rfl⟩
          obtain ⟨Wx, hWx⟩ : ∃ X, X = wr.alloc (Obj.cells #[.int .i64 sc, .int .i64 qd, .int .i64 sa, .int .i64 sb, .int .i64 se] 31) := ⟨_, rfl⟩
          have hx := heap_alloc_new wr (Obj.cells #[.int .i64 sc, .int .i64 qd, .int .i64 sa, .int .i64 sb, .int .i64 se] 31)
          rw [← hWx, ← hgx] at hx
          rw [← hWx] at S5 G5
          rw [← hWx, ← hgx]
          have hxg : gx ≠ gv := by omega
          clear hgx hWx hb5 pc pf p2 S G hs1 hs2 hs3 hs4 hs5
          obtain ⟨gv', e', q1, q2, q3, q4, pc, pf⟩ := S5.out.places (by omega)
          cases e'
          have e0 : Wx.cell? ⟨gx, 0, none⟩ = some (.int .i64 sc) := by simp [World.cell?, hx]
          have e1 : Wx.cell? ⟨gx, 1, none⟩ = some (.int .i64 qd) := by simp [World.cell?, hx]
          have e2 : Wx.cell? ⟨gx, 2, none⟩ = some (.int .i64 sa) := by simp [World.cell?, hx]
          have e3 : Wx.cell? ⟨gx, 3, none⟩ = some (.int .i64 sb) := by simp [World.cell?, hx]
          have e4 : Wx.cell? ⟨gx, 4, none⟩ = some (.int .i64 se) := by simp [World.cell?, hx]
          have pcd := pc qd hqd2
          obtain ⟨vd, hvd⟩ : ∃ v, v = V2.getD qd 0 := ⟨_, rfl⟩
          rw [← hvd] at pcd
          clear hvd hx
          have ha3 := arity_le sc
          have hcase : arityV sc = 0 ∨ arityV sc = 1 ∨ arityV sc = 2 ∨ arityV sc = 3 := by omega
          clear ha3
          rcases hcase with har | har | har | har
          · obtain ⟨qa, hqa⟩ : ∃ q : Nat, sa = (q : Int) := Int.eq_ofNat_of_zero_le (GS.out.num har).1
            have hqa2 : qa < n5 := by have h := (GS.out.num har).2; simp only [] at h; omega
            subst hqa
            have hqa3 : (qa : Int) < (n5 : Int) := by omega
            obtain ⟨b5', o5', rfl, hc5⟩ := (H.out.i5.up S5.out.below).2 (by omega)
            have h5 := hc5 qa hqa2
            have hval : valV N.nums V2 ⟨sc, qd, qa, sb, se⟩ = N.nums.getD qa 0 := by unfold valV; rw [if_pos har]; rfl
            rw [hval] at F2
            obtain ⟨vv, hvv⟩ : ∃ v, v = N.nums.getD qa 0 := ⟨_, rfl⟩
            rw [← hvv] at F2 h5
            obtain ⟨x0, x1, x2, x3, x4, x5, x6, x7, x8⟩ := m_cells S5.out.box
            clear hval hvv hc5 pc
            go_wp2_with (go_at_call 36; refine (arity_any sc _).mono ?_; rintro r w5 ⟨rfl, rfl⟩)
            go_region
            all_goals
              go_wp2_with fail
              go_roundw
              case rel => exact ⟨j + 1, _, by omega, by go_num, Lib.hid (S5.out.drew.set hqd2 vv), Lib.hid (grown_set (grown_below2 G5.out (Below.refl _ _).drew) _), F2⟩
              case measure => simp [intOf]; omega
          · obtain ⟨qa, hqa⟩ : ∃ q : Nat, sa = (q : Int) := Int.eq_ofNat_of_zero_le (GS.out.a (by show 1 ≤ arityV sc; omega)).1
            have hqa2 : qa < n1 := by have h := (GS.out.a (by show 1 ≤ arityV sc; omega)).2; simp only [] at h; omega
            subst hqa
            have hqa3 : (qa : Int) < (n1 : Int) := by omega
            have pca := pc qa hqa2
            obtain ⟨va, hva⟩ : ∃ v, v = V2.getD qa 0 := ⟨_, rfl⟩
            have hval : valV N.nums V2 ⟨sc, qd, qa, sb, se⟩ = if sc = 2 then va else oneV sc va := by unfold valV; rw [if_neg (by show ¬ arityV sc = 0; omega), if_pos har, hva]; rfl
            rw [hval] at F2
            rw [← hva] at pca
            clear hva hval pc
            by_cases hc2 : sc = 2
            · rw [if_pos hc2] at F2
              have hcb : (sc == 2) = true := by simpa using hc2
              clear hc2
              go_wp2_with (go_at_call 36; refine (arity_any sc _).mono ?_; rintro r w5 ⟨rfl, rfl⟩)
              go_region
              all_goals
                go_wp2_with fail
                go_roundw
                case rel => exact ⟨j + 1, _, by omega, by go_num, Lib.hid (S5.out.drew.set hqd2 va), Lib.hid (grown_set (grown_below2 G5.out (Below.refl _ _).drew) _), F2⟩
                case measure => simp [intOf]; omega
            · rw [if_neg hc2] at F2
              have hcb : (sc == 2) = false := by simpa using hc2
              clear hc2
              go_wp2_with (go_at_call 36; refine (arity_any sc _).mono ?_; rintro r w5 ⟨rfl, rfl⟩)
              go_still_tail 12, (by kernel_rfl)
              still_call ((one_any sc va _).mono (fun e w' h => ⟨h.1, h.2.symm⟩))
              repeat still_step
              refine wpStill_nil ?_
              change wpList _ _ _ _ _ Wx.drew
              have D5 := Lib.hid (S5.out.drew.set hqd2 (oneV sc va))
              have DG := Lib.hid (grown_set (grown_below2 G5.out (Below.refl Wx.heap.size Wx).drew) (v := .int .i64 (oneV sc va)) (o := qd))
              go_wp2_with fail
              go_roundw
              case rel => exact ⟨j + 1, _, by omega, by go_num, D5, DG, F2⟩
              case measure => simp [intOf]; omega
          · obtain ⟨qa, hqa⟩ : ∃ q : Nat, sa = (q : Int) := Int.eq_ofNat_of_zero_le (GS.out.a (by show 1 ≤ arityV sc; omega)).1
            have hqa2 : qa < n1 := by have h := (GS.out.a (by show 1 ≤ arityV sc; omega)).2; simp only [] at h; omega
            subst hqa
            have hqa3 : (qa : Int) < (n1 : Int) := by omega
            have pca := pc qa hqa2
            obtain ⟨va, hva⟩ : ∃ v, v = V2.getD qa 0 := ⟨_, rfl⟩
            obtain ⟨qb, hqb⟩ : ∃ q : Nat, sb = (q : Int) := Int.eq_ofNat_of_zero_le (GS.out.b (by show 2 ≤ arityV sc; omega)).1
            have hqb2 : qb < n1 := by have h := (GS.out.b (by show 2 ≤ arityV sc; omega)).2; simp only [] at h; omega
            subst hqb
            have hqb3 : (qb : Int) < (n1 : Int) := by omega
            have pcb := pc qb hqb2
            obtain ⟨vb, hvb⟩ : ∃ v, v = V2.getD qb 0 := ⟨_, rfl⟩
            have hval : valV N.nums V2 ⟨sc, qd, qa, qb, se⟩ = twoV sc va vb := by unfold valV; rw [if_neg (by show ¬ arityV sc = 0; omega), if_neg (by show ¬ arityV sc = 1; omega), if_pos har, hva, hvb]; rfl
            rw [hval] at F2
            rw [← hva] at pca
            rw [← hvb] at pcb
            clear hva hvb hval pc
            go_wp2_with (go_at_call 36; refine (arity_any sc _).mono ?_; rintro r w5 ⟨rfl, rfl⟩)
            go_still_tail 17, (by kernel_rfl)
            still_call ((two_any sc va vb _).mono (fun e w' h => ⟨h.1, h.2.symm⟩))
            repeat still_step
            refine wpStill_nil ?_
            change wpList _ _ _ _ _ Wx.drew
            have D5 := Lib.hid (S5.out.drew.set hqd2 (twoV sc va vb))
            have DG := Lib.hid (grown_set (grown_below2 G5.out (Below.refl Wx.heap.size Wx).drew) (v := .int .i64 (twoV sc va vb)) (o := qd))
            go_wp2_with fail
            go_roundw
            case rel => exact ⟨j + 1, _, by omega, by go_num, D5, DG, F2⟩
            case measure => simp [intOf]; omega
          · obtain ⟨qa, hqa⟩ : ∃ q : Nat, sa = (q : Int) := Int.eq_ofNat_of_zero_le (GS.out.a (by show 1 ≤ arityV sc; omega)).1
            have hqa2 : qa < n1 := by have h := (GS.out.a (by show 1 ≤ arityV sc; omega)).2; simp only [] at h; omega
            subst hqa
            have hqa3 : (qa : Int) < (n1 : Int) := by omega
            have pca := pc qa hqa2
            obtain ⟨va, hva⟩ : ∃ v, v = V2.getD qa 0 := ⟨_, rfl⟩
            obtain ⟨qb, hqb⟩ : ∃ q : Nat, sb = (q : Int) := Int.eq_ofNat_of_zero_le (GS.out.b (by show 2 ≤ arityV sc; omega)).1
            have hqb2 : qb < n1 := by have h := (GS.out.b (by show 2 ≤ arityV sc; omega)).2; simp only [] at h; omega
            subst hqb
            have hqb3 : (qb : Int) < (n1 : Int) := by omega
            have pcb := pc qb hqb2
            obtain ⟨vb, hvb⟩ : ∃ v, v = V2.getD qb 0 := ⟨_, rfl⟩
            obtain ⟨qe, hqe⟩ : ∃ q : Nat, se = (q : Int) := Int.eq_ofNat_of_zero_le (GS.out.e (by show 3 ≤ arityV sc; omega)).1
            have hqe2 : qe < n1 := by have h := (GS.out.e (by show 3 ≤ arityV sc; omega)).2; simp only [] at h; omega
            subst hqe
            have hqe3 : (qe : Int) < (n1 : Int) := by omega
            have pce := pc qe hqe2
            obtain ⟨ve, hve⟩ : ∃ v, v = V2.getD qe 0 := ⟨_, rfl⟩
            have hval : valV N.nums V2 ⟨sc, qd, qa, qb, qe⟩ = pickV va vb ve := by unfold valV; rw [if_neg (by show ¬ arityV sc = 0; omega), if_neg (by show ¬ arityV sc = 1; omega), if_neg (by show ¬ arityV sc = 2; omega), hva, hvb, hve]; rfl
            rw [hval] at F2
            rw [← hva] at pca
            rw [← hvb] at pcb
            rw [← hve] at pce
            clear hva hvb hve hval pc
            go_wp2_with (go_at_call 36; refine (arity_any sc _).mono ?_; rintro r w5 ⟨rfl, rfl⟩)
            go_still_tail 20, (by kernel_rfl)
            still_call ((pick_any va vb ve _).mono (fun e w' h => ⟨h.1, h.2.symm⟩))
            repeat still_step
            refine wpStill_nil ?_
            change wpList _ _ _ _ _ Wx.drew
            have D5 := Lib.hid (S5.out.drew.set hqd2 (pickV va vb ve))
            have DG := Lib.hid (grown_set (grown_below2 G5.out (Below.refl Wx.heap.size Wx).drew) (v := .int .i64 (pickV va vb ve)) (o := qd))
            go_wp2_with fail
            go_roundw
            case rel => exact ⟨j + 1, _, by omega, by go_num, D5, DG, F2⟩
            case measure => simp [intOf]; omega
        · have hd := H.out.i6.drop_end (k := j) (by omega)
          have F2 : Hid (V2 = runV N.nums N.code V') := Lib.hid (by have h := F.out; rw [hd] at h; exact h)
          have HM : Hid (m < w.heap.size) := Lib.hid (lt_of_block M.out.box)
          have HK : Hid (gk < w.heap.size) := Lib.hid (lt_of_block M.out.ks)
          have HA : Hid (∀ x, (Value.slice AV n1 cV).ownBlock = some x → x < w.heap.size) := Lib.hid fun x e => (own_lt' M.out.vs x e).2
          have HW : Hid (W.heap.size ≤ w.heap.size) := Lib.hid M.out.below.size
          have HKL : Hid (K.length = n1) := Lib.hid M.out.kl
          clear F hd
          obtain ⟨x0, x1, x2, x3, x4, x5, x6, x7, x8⟩ := m_cells S.out.box
          go_wp2_with fail
          clear x0 x1 x2 x3 x4 x5 x6 x7 x8
          go_loopw [10, 144] (fun v i wr => ∃ k : Nat, k ≤ n3 ∧ i = .int .i64 k ∧ wr.ownsRow w.heap.size 2 1 v k (((N.outs.take k).map (atV V2)).map (Value.int .i64)) ∧ Hid (MSt W wr m gk [.int .i64 n1, .slice A1 n1 c1, .slice A2 n2 c2, .slice A3 n3 c3, .slice A4 n4 c4, .slice A5 n5 c5, .slice A6 n6 c6] AV n1 cV V2 K) ∧ Hid (w.grownBy wr (Value.slice AV n1 cV).ownBlock)) (fun _ i _ => n3 - (intOf i).toNat)
          case atStart => exact ⟨0, Nat.zero_le _, rfl, by simpa using World.ownsRow_nil _ _ _ _, S, G⟩
          case round =>
            clear S G
            obtain ⟨k, hk, rfl, hown, S, G⟩ := hrel
            by_cases hlt : k < n3
            · have I3 := H.out.i3.up S.out.below
              obtain ⟨b, o, rfl, hc⟩ := I3.2 (by omega)
              have hck := hc k hlt
              have hmm := HG.out.outs _ (getD_mem (xs := N.outs) (k := k) (by omega))
              obtain ⟨q, hq⟩ := Int.eq_ofNat_of_zero_le hmm.1
              have hq2 : q < n1 := by have := hmm.2; omega
              have hq3 : (q : Int) < (n1 : Int) := by omega
              have ht := take_snocD (xs := N.outs) (n := n3) l3 hlt
              rw [hq] at hck ht
              obtain ⟨vq, hvq⟩ : ∃ v, v = V2.getD q 0 := ⟨_, rfl⟩
              have HT : Hid (((N.outs.take (k + 1)).map (atV V2)).map (Value.int .i64) = ((N.outs.take k).map (atV V2)).map (Value.int .i64) ++ [Value.int .i64 vq]) := Lib.hid (by rw [ht, List.map_append, List.map_append, hvq]; rfl)
              obtain ⟨gv, rfl, p1, p2, p3, p4, pc, pf⟩ := S.out.places (by omega)
              have pcq := pc q hq2
              rw [← hvq] at pcq
              obtain ⟨ys, hys⟩ : ∃ ys, ys = ((N.outs.take k).map (atV V2)).map (Value.int .i64) := ⟨_, rfl⟩
              rw [← hys] at hown HT
              have HO := Lib.hid hown
              have HSZ : Hid (w.heap.size ≤ wr.heap.size) := Lib.hid G.out.size
              clear hc I3 hmm hq ht hvq hys pc hown
              go_wp2_with (at_builtin; refine wpList_append_own _ rfl _ _ 22 rfl w.heap.size 2 i0 (.int .i64 0) 1 8 Tryd.underlying22 hi0 hz0 hz1 hz2 rfl (by decide) _ _ _ rfl (HO.out.alloc _) ⟨wr.heap.size, 0, none⟩ 1 1 [Value.int .i64 vq] rfl rfl ?c1 ?c2 ?c3 ?c4 ?c5 ?_)
              case c1 =>
                intro j u hj
                match j, hj with
                | 0, hj => simp at hj; subst hj; simp [Addr.add]
              case c2 => intro u hu; simp at hu; subst hu; rfl
              case c3 => unfold maxLen; omega
              case c4 => omega
              case c5 => have := HSZ.out; simp; omega
              intro v' w1 hown' hgrow _
              have S1 := (S.out.grow ((Below.refl wr.heap.size wr).alloc (Nat.le_refl _) (.cells #[.int .i64 vq] 2)))
              have S2 := Lib.hid (S1.other hgrow (fun e => by have h1 := (own_lt' HO.out m e.symm).1; have h2 := HM.out; omega) (fun e => by have h1 := (own_lt' HO.out gk e.symm).1; have h2 := HK.out; omega) (.inr (fun e => by have h1 := (own_lt' HO.out gv e.symm).1; have h2 := HA.out gv rfl; omega)) (fun x e => Nat.le_trans HW.out (own_lt' HO.out x e).1))
              have G2 := Lib.hid (grown_own2 (grown_below2 G.out ((Below.refl wr.heap.size wr).alloc (Nat.le_refl _) (.cells #[.int .i64 vq] 2))) hgrow (fun x e => (own_lt' HO.out x e).1))
              have HO2 := Lib.hid hown'
              clear S1 hgrow hown'
              go_wp2_with fail
              go_roundw
              case rel => exact ⟨k + 1, by omega, by go_num, by rw [HT.out]; exact HO2.out, S2, G2⟩
              case measure => simp [intOf]; omega
            · have hke : k = n3 := by omega
              subst hke
              rw [List.take_of_length_le (by rw [l3]; exact Nat.le_refl _)] at hown
              obtain ⟨OA, oc, rfl⟩ := own_slice' hown
              have HO := Lib.hid hown
              clear hown
              go_wp2_with fail
              go_loopw [158] (fun i wr => ∃ (j : Nat) (V3 : List Int), j ≤ n1 ∧ i = .int .i64 j ∧ Hid (wr.ownsRow w.heap.size 2 1 (.slice OA k oc) k ((N.outs.map (atV V2)).map (Value.int .i64))) ∧ Hid (MSt W wr m gk [.int .i64 n1, .slice A1 n1 c1, .slice A2 n2 c2, .slice A3 k c3, .slice A4 n4 c4, .slice A5 n5 c5, .slice A6 n6 c6] AV n1 cV V3 K) ∧ Hid (w.grownBy wr (Value.slice AV n1 cV).ownBlock) ∧ Hid (clrV (K.drop j) j V3 = clrV K 0 V2)) (fun i _ => n1 - (intOf i).toNat)
              case atStart => exact ⟨0, V2, Nat.zero_le _, rfl, HO, S, G, Lib.hid rfl⟩
              case round =>
                clear S G HO
                obtain ⟨j, V3, hj, rfl, HO, S, G, F⟩ := hrel
                by_cases hlt2 : j < n1
                · obtain ⟨gv, rfl, p1, p2, p3, p4, pc, pf⟩ := S.out.places (by omega)
                  have pcj := pc j hlt2
                  obtain ⟨vj, hvj⟩ : ∃ v, v = V3.getD j 0 := ⟨_, rfl⟩
                  rw [← hvj] at pcj
                  obtain ⟨kc, kf, kl⟩ := S.out.kcell hlt2
                  obtain ⟨bk, hbk⟩ : ∃ b, b = K.getD j false := ⟨_, rfl⟩
                  rw [← hbk] at kc
                  have hkl : j < K.length := by rw [HKL.out]; exact hlt2
                  have hdk : K.drop j = bk :: K.drop (j + 1) := by
                    rw [List.drop_eq_getElem_cons hkl, hbk, List.getD_eq_getElem?_getD, List.getElem?_eq_getElem hkl]
                    rfl
                  have F2 : Hid (clrV (K.drop (j + 1)) (j + 1) (if bk = true then V3 else V3.set j 0) = clrV K 0 V2) := Lib.hid (by have h := F.out; rw [hdk, clrV] at h; exact h)
                  have HAg : Hid (gv < w.heap.size) := Lib.hid (HA.out gv rfl)
                  obtain ⟨x0, x1, x2, x3, x4, x5, x6, x7, x8⟩ := m_cells S.out.box
                  have hj2 : (j : Int) < (n1 : Int) := by omega
                  clear hvj hbk hkl hdk F pc
                  cases bk
                  · rw [if_neg (by simp)] at F2
                    go_wp2_with fail
                    go_roundw
                    case rel => exact ⟨j + 1, _, by omega, by go_num, Lib.hid (ownsRow_setCell_below HO.out HAg.out _), Lib.hid (S.out.set hlt2 0), Lib.hid (grown_set G.out _), F2⟩
                    case measure => simp [intOf]; omega
                  · rw [if_pos rfl] at F2
                    go_wp2_with fail
                    go_roundw
                    case rel => exact ⟨j + 1, _, by omega, by go_num, HO, S, G, F2⟩
                    case measure => simp [intOf]; omega
                · have hdk : K.drop j = [] := List.drop_of_length_le (by rw [HKL.out]; omega)
                  have F3 : Hid (V3 = clrV K 0 V2) := Lib.hid (by have h := F.out; rw [hdk] at h; exact h)
                  clear F hdk
                  go_wp2_with fail
                  go_ret
                  refine ⟨OA, k, oc, rfl, ?_, ?_, G.out⟩
                  · show World.ownsRow _ _ _ _ _ _ ((N.outs.map (atV (runV N.nums N.code (insV I N.ins 0 V)))).map _)
                    rw [← HV1.out, ← F2.out]
                    exact HO.out
                  · have e : (tickV N K I V).2 = V3 := by rw [F3.out, F2.out, HV1.out]; rfl
                    rw [e]
                    exact S.out
theorem NetAt.toL {w : World} {P : Int} {A1 A2 A3 A4 A5 A6 : Option Addr} {n1 c1 n2 c2 n3 c3 n4 c4 n5 c5 n6 c6 : Nat} {N : NetP} (h : NetAt w P A1 A2 A3 A4 A5 A6 n1 c1 n2 c2 n3 c3 n4 c4 n5 c5 n6 c6 N) : NetAtL w P A1 A2 A3 A4 A5 A6 n1 c1 n2 c2 n3 c3 n4 c4 n5 c5 n6 c6 N :=
  ⟨h.hp, h.i1, h.i2, h.i3, h.i4, h.i5, h.i6, by have := h.p0; omega, by have := h.b1; omega, by have := h.b2; omega, by have := h.b3; omega, by have := h.b4; omega, by have := h.b5; omega, by have := h.b6; omega, h.k2, by have := h.b2; have := h.b3; have := h.b4; omega⟩
end Go.Proofs.YtgglbjniclkkpaaDoor

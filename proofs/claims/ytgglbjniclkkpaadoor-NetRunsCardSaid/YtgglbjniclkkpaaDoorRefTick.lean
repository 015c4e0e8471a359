/-
  (*ref.Machine).Tick.
-/
import Derived.Test.YtgglbjniclkkpaaDoorRefMach
import Derived.Test.YtgglbjniclkkpaaDoorValOk
import Derived.RegionTactic
import Derived.BigQuiet
namespace Go.Proofs.YtgglbjniclkkpaaDoor
open Go.RowKit
set_option linter.unusedVariables false

theorem RMs.drewN {W wr : World} {m b n p : Nat} {NC : List Value} {V : List Int} (h : RMs W wr m b n NC p V) (k : Nat) : RMs W (wr.drewN k) m b n NC p V :=
  ⟨h.below.trans ⟨rfl, rfl, rfl, Nat.le_refl _, fun _ _ => rfl⟩, h.lo, h.lb, h.box, h.map, h.len, h.ok⟩
theorem own_not_map {w : World} {B n b k p : Nat} {e : TypeId} {v : Value} {xs : List Value} {V : List Int} (h : w.ownsRow B e 1 v n xs) (hm : MapAt w b k p V) : v.ownBlock = none ∨ v.ownBlock ≠ some b := by
  right
  intro e
  obtain ⟨c, hc⟩ := own_kind' h b e
  exact hm.not_cells hc rfl
theorem below_dd (w : World) (k : Nat) : Below w.heap.size w (w.drewN k) := ⟨rfl, rfl, rfl, Nat.le_refl _, fun _ _ => rfl⟩
set_option maxHeartbeats 16000000 in
set_option maxRecDepth 100000 in
theorem refTick_any (W : World) (A1 A2 A3 A4 A5 A6 : Option Addr) (n1 c1 n2 c2 n3 c3 n4 c4 n5 c5 n6 c6 : Nat) (N : NetP) (hnet : NetAt W n1 A1 A2 A3 A4 A5 A6 n1 c1 n2 c2 n3 c3 n4 c4 n5 c5 n6 c6 N) (hgood : GoodNet n1 N) (hnum : ∀ x ∈ N.nums, okN x) (m b n : Nat) (hn : n ≤ 300) (V : List Int) (AI : Option Addr) (ni ci : Nat) (I : List Int) (hi : IntsAt W AI ni I) (hni : ni ≤ 4000) (hiok : ∀ x ∈ I, okN x) (w : World) (hm : RMs W w m b n [.int .i64 n1, .slice A1 n1 c1, .slice A2 n2 c2, .slice A3 n3 c3, .slice A4 n4 c4, .slice A5 n5 c5, .slice A6 n6 c6] n1 V) :
    Calls Tryd.prog 35 #[.pointer (some ⟨m, 0, none⟩), .slice AI ni ci] w fun r w' => ∃ A k c b' n' V' w1, r = .returned (.slice A k c) ∧ w'.ownsRow w.heap.size 2 1 (.slice A k c) n3 ((N.outs.map (atV (runV N.nums N.code (insV I N.ins 0 V)))).map (Value.int .i64)) ∧
      n' ≤ 300 ∧ RMs W w' m b' n' [.int .i64 n1, .slice A1 n1 c1, .slice A2 n2 c2, .slice A3 n3 c3, .slice A4 n4 c4, .slice A5 n5 c5, .slice A6 n6 c6] n1 V' ∧ (∀ q, q < n1 → V'.getD q 0 = if q ∈ N.keeps.map Int.toNat then (runV N.nums N.code (insV I N.ins 0 V)).getD q 0 else 0) ∧ w.grownBy w1 (some b) ∧ w1.grownBy w' (some m) := by
  obtain ⟨i0, hi0, hz0, hz1, hz2⟩ := info_parts infoN
  have l2 := hnet.i2.1
  have l3 := hnet.i3.1
  have l4 := hnet.i4.1
  have l5 := hnet.i5.1
  have l6 := hnet.i6.1
  have b1 := hnet.b1
  have b2 := hnet.b2
  have b3 := hnet.b3
  have b4 := hnet.b4
  have b5 := hnet.b5
  have b6 := hnet.b6
  have li := hi.1
  have H := Lib.hid hnet
  have HI := Lib.hid hi
  have HG := Lib.hid hgood
  have HNM := Lib.hid hnum
  have HIO := Lib.hid hiok
  have M := Lib.hid hm
  clear hnet hi hgood hm hnum hiok
  obtain ⟨x0, x1, x2, x3, x4, x5, x6, x7⟩ := r_cells M.out.box
  go_enter Tryd.func35, Tryd.ntmps35
  go_wp2_with fail
  clear x0 x1 x2 x3 x4 x5 x6 x7
  go_loopw [22] (fun i wr => ∃ (k : Nat) (nn : Nat) (V' : List Int), k ≤ n2 ∧ i = .int .i64 k ∧ nn ≤ 300 + 2 * k ∧ Hid (RMs W wr m b nn [.int .i64 n1, .slice A1 n1 c1, .slice A2 n2 c2, .slice A3 n3 c3, .slice A4 n4 c4, .slice A5 n5 c5, .slice A6 n6 c6] n1 V') ∧ Hid (w.grownBy wr (some b)) ∧ Hid (insV I (N.ins.drop k) k V' = insV I N.ins 0 V)) (fun i _ => n2 - (intOf i).toNat)
  case atStart => exact ⟨0, n, V, Nat.zero_le _, rfl, by omega, M, Lib.hid (grown_refl _ _), Lib.hid rfl⟩
  case round =>
    obtain ⟨k, nn, V', hk, rfl, hnn, S, G, F⟩ := hrel
    by_cases hlt : k < n2
    · have I2 := H.out.i2.up S.out.below
      obtain ⟨bb, o, rfl, hc⟩ := I2.2 (by omega)
      have hck := hc k hlt
      have hd := I2.drop_cons hlt
      have hmm := HG.out.ins _ (getD_mem (xs := N.ins) (k := k) (by omega))
      obtain ⟨q, hq⟩ := Int.eq_ofNat_of_zero_le hmm.1
      have hq2 : q < n1 := by have := hmm.2; omega
      rw [hq] at hck hd
      have F2 : Hid (insV I (N.ins.drop (k + 1)) (k + 1) (V'.set q (I.getD k 0)) = insV I N.ins 0 V) := Lib.hid (by have h := F.out; rw [hd, insV] at h; exact h)
      obtain ⟨wa, hruna, hSa, hga⟩ := S.out.update hq2 (by omega) (by omega) (x := 0) (okN_nat (n := 0) (by decide))
      have SA := Lib.hid hSa
      have GA := Lib.hid (grown_trans G.out hga)
      obtain ⟨x0, x1, x2, x3, x4, x5, x6, x7⟩ := r_cells S.out.box
      obtain ⟨y0, y1, y2, y3, y4, y5, y6, y7⟩ := r_cells SA.out.box
      clear hc I2 hmm hq hd F hSa hga
      by_cases hin : k < ni
      · obtain ⟨bI, oI, rfl, hcI⟩ := (HI.out.up SA.out.below).2 (by omega)
        have hci := hcI k hin
        have hxo := HIO.out _ (getD_mem (xs := I) (k := k) (by omega))
        obtain ⟨xi, hxi⟩ : ∃ x, x = I.getD k 0 := ⟨_, rfl⟩
        rw [← hxi] at hci F2 hxo
        obtain ⟨wb, hrunb, hSb, hgb⟩ := SA.out.drew.update hq2 (by omega) (by omega) hxo
        have SB := Lib.hid hSb
        have GB := Lib.hid (grown_trans (grown_below2 GA.out (Below.refl _ _).drew) hgb)
        have hin2 : (k : Int) < (ni : Int) := by omega
        clear hcI hxi hxo hSb hgb
        go_wp2_with fail
        go_region
        all_goals
          go_wp2_with fail
          go_roundw
          case rel => exact ⟨k + 1, nn + 1 + 1, _, by omega, by go_num, by omega, Lib.hid (by have h := SB.out; rw [List.set_set] at h; exact h), GB, F2⟩
          case measure => simp [intOf]; omega
      · have hz : I.getD k 0 = 0 := by rw [List.getD_eq_getElem?_getD, List.getElem?_eq_none (by omega)]; rfl
        rw [hz] at F2
        have hin2 : ¬ (k : Int) < (ni : Int) := by omega
        go_wp2_with fail
        go_roundw
        case rel => exact ⟨k + 1, nn + 1, _, by omega, by go_num, by omega, SA, GA, F2⟩
        case measure => simp [intOf]; omega
    · have hd := H.out.i2.drop_end (k := k) (by omega)
      have F2 : Hid (V' = insV I N.ins 0 V) := Lib.hid (by have h := F.out; rw [hd] at h; exact h)
      obtain ⟨V1, hV1⟩ : ∃ V1, V1 = insV I N.ins 0 V := ⟨_, rfl⟩
      have HV1 := Lib.hid hV1
      have e : V' = V1 := F2.out.trans hV1.symm
      subst e
      clear F hd F2 hV1
      obtain ⟨x0, x1, x2, x3, x4, x5, x6, x7⟩ := r_cells S.out.box
      go_wp2_with fail
      clear x0 x1 x2 x3 x4 x5 x6 x7
      go_loopw [52] (fun i wr => ∃ (k nn : Nat) (V2 : List Int), k ≤ n6 ∧ i = .int .i64 k ∧ nn ≤ 400 + k ∧ Hid (RMs W wr m b nn [.int .i64 n1, .slice A1 n1 c1, .slice A2 n2 c2, .slice A3 n3 c3, .slice A4 n4 c4, .slice A5 n5 c5, .slice A6 n6 c6] n1 V2) ∧ Hid (w.grownBy wr (some b)) ∧ Hid (runV N.nums (N.code.drop k) V2 = runV N.nums N.code V')) (fun i _ => n6 - (intOf i).toNat)
      case atStart => exact ⟨0, nn, V', Nat.zero_le _, rfl, by omega, S, G, Lib.hid rfl⟩
      case round =>
        clear S G hnn
        obtain ⟨j, n9, V2, hj, rfl, hnn, S, G, F⟩ := hrel
        by_cases hlt : j < n6
        · obtain ⟨bb, o, rfl, hc⟩ := (H.out.i6.up S.out.below).2 (by omega)
          obtain ⟨s, hs0, hs1, hs2, hs3, hs4, hs5⟩ := hc j hlt
          have hd := drop_step hs0
          have hgs := HG.out.code s (List.mem_of_getElem? hs0)
          obtain ⟨sc, sd, sa, sb, se⟩ := s
          simp only [] at hs1 hs2 hs3 hs4 hs5
          have F2 : Hid (runV N.nums (N.code.drop (j + 1)) (V2.set sd.toNat (valV N.nums V2 ⟨sc, sd, sa, sb, se⟩)) = runV N.nums N.code V') := Lib.hid (by have h := F.out; rw [hd, runV] at h; exact h)
          have GS := Lib.hid hgs
          obtain ⟨qd, hqd⟩ : ∃ q : Nat, sd = (q : Int) := Int.eq_ofNat_of_zero_le hgs.d.1
          have hqd2 : qd < n1 := by have : sd < (n1 : Int) := hgs.d.2; omega
          subst hqd
          clear hc hs0 hd F hgs
          rw [Int.toNat_natCast] at F2
          have hb5 := (Below.refl wr.heap.size wr).alloc (Nat.le_refl _) (Obj.cells #[.int .i64 sc, .int .i64 qd, .int .i64 sa, .int .i64 sb, .int .i64 se] 31)
          have S5 := Lib.hid (S.out.grow hb5)
          have G5 := Lib.hid (grown_below2 G.out hb5)
          go_upto_region 11 with fail
          obtain ⟨gx, hgx⟩ : ∃ gx, gx = wr.heap.size := ⟨_, rfl⟩
          obtain ⟨Wx, hWx⟩ : ∃ X, X = wr.alloc (Obj.cells #[.int .i64 sc, .int .i64 qd, .int .i64 sa, .int .i64 sb, .int .i64 se] 31) := ⟨_, rfl⟩
          have hx := heap_alloc_new wr (Obj.cells #[.int .i64 sc, .int .i64 qd, .int .i64 sa, .int .i64 sb, .int .i64 se] 31)
          rw [← hWx, ← hgx] at hx
          rw [← hWx] at S5 G5
          rw [← hWx, ← hgx]
          clear hgx hWx hb5 S G hs1 hs2 hs3 hs4 hs5
          have e0 : Wx.cell? ⟨gx, 0, none⟩ = some (.int .i64 sc) := by simp [World.cell?, hx]
          have e1 : Wx.cell? ⟨gx, 1, none⟩ = some (.int .i64 qd) := by simp [World.cell?, hx]
          have e2 : Wx.cell? ⟨gx, 2, none⟩ = some (.int .i64 sa) := by simp [World.cell?, hx]
          have e3 : Wx.cell? ⟨gx, 3, none⟩ = some (.int .i64 sb) := by simp [World.cell?, hx]
          have e4 : Wx.cell? ⟨gx, 4, none⟩ = some (.int .i64 se) := by simp [World.cell?, hx]
          have HX := Lib.hid hx
          clear hx
          have ha3 := arity_le sc
          have hcase : arityV sc = 0 ∨ arityV sc = 1 ∨ arityV sc = 2 ∨ arityV sc = 3 := by omega
          clear ha3
          rcases hcase with har | har | har | har
          · obtain ⟨qa, hqa⟩ : ∃ q : Nat, sa = (q : Int) := Int.eq_ofNat_of_zero_le (GS.out.num har).1
            have hqa2 : qa < n5 := by have h := (GS.out.num har).2; simp only [] at h; omega
            subst hqa
            have hqa3 : (qa : Int) < (n5 : Int) := by omega
            have hval : valV N.nums V2 ⟨sc, qd, qa, sb, se⟩ = N.nums.getD qa 0 := by unfold valV; rw [if_pos har]; rfl
            rw [hval] at F2
            obtain ⟨b5', o5', rfl, hc5⟩ := (H.out.i5.up S5.out.below).2 (by omega)
            have h5 := hc5 qa hqa2
            have hvo := HNM.out _ (getD_mem (xs := N.nums) (k := qa) (by omega))
            obtain ⟨vv, hvv⟩ : ∃ v, v = N.nums.getD qa 0 := ⟨_, rfl⟩
            rw [← hvv] at F2 h5 hvo
            clear hval hvv hc5
            go_wp2_with (go_at_call 12; refine (refAsks_any ⟨sc, qd, qa, sb, se⟩ _).mono ?_; rintro r w14 ⟨AA, ca, rfl, hca, hia, hba⟩; have S14 := Lib.hid (S5.out.grow hba); have G14 := Lib.hid (grown_below2 G5.out hba); obtain ⟨x0, x1, x2, x3, x4, x5, x6, x7⟩ := r_cells S14.out.box; have f0 := cell_up hba e0; have f1 := cell_up hba e1; have f2 := cell_up hba e2; have f3 := cell_up hba e3; have f4 := cell_up hba e4; have hba' := Lib.hid hba; clear e0 e1 e2 e3 e4 hba hia; have h5' := cell_up hba'.out h5; clear h5)
            go_quiet (fail)
            go_wp2_with fail
            obtain ⟨w9, hrun9, hS9, hg9⟩ := (S14.out.drewN (nq + 1)).update hqd2 (by omega) (by omega) (x := vv) hvo
            have S9 := Lib.hid hS9
            have G9 := Lib.hid (grown_trans (grown_below2 G14.out (below_dd w14 (nq + 1))) hg9)
            clear hS9 hg9
            go_region
            all_goals
              go_wp2_with fail
              go_roundw
              case rel => exact ⟨j + 1, n9 + 1, _, by omega, by go_num, by omega, S9, G9, F2⟩
              case measure => simp [intOf]; omega
          · obtain ⟨qa, hqa⟩ : ∃ q : Nat, sa = (q : Int) := Int.eq_ofNat_of_zero_le (GS.out.a (by show 1 ≤ arityV sc; omega)).1
            have hqa2 : qa < n1 := by have h := (GS.out.a (by show 1 ≤ arityV sc; omega)).2; simp only [] at h; omega
            subst hqa
            obtain ⟨va, hwa⟩ : ∃ v, v = V2.getD qa 0 := ⟨_, rfl⟩
            have hva : Hid (V2.getD qa 0 = va) := Lib.hid hwa.symm
            have hoa : okN va := by rw [hwa]; exact S5.out.ok _ (getD_mem (by rw [S5.out.len]; exact hqa2))
            have HOa := Lib.hid hoa
            have hval : valV N.nums V2 ⟨sc, qd, qa, sb, se⟩ = if sc = 2 then va else oneV sc va := by unfold valV; rw [if_neg (by show ¬ arityV sc = 0; omega), if_pos har, hwa]; rfl
            rw [hval] at F2
            clear hval hwa hoa
            by_cases hc2 : sc = 2
            · rw [if_pos hc2] at F2
              have hcb : (sc != 2) = false := by simpa using hc2
              clear hc2
              go_wp2_with (go_at_call 12; refine (refAsks_any ⟨sc, qd, qa, sb, se⟩ _).mono ?_; rintro r w14 ⟨AA, ca, rfl, hca, hia, hba⟩; have S14 := Lib.hid (S5.out.grow hba); have G14 := Lib.hid (grown_below2 G5.out hba); obtain ⟨x0, x1, x2, x3, x4, x5, x6, x7⟩ := r_cells S14.out.box; have f0 := cell_up hba e0; have f1 := cell_up hba e1; have f2 := cell_up hba e2; have f3 := cell_up hba e3; have f4 := cell_up hba e4; have hba' := Lib.hid hba; clear e0 e1 e2 e3 e4 hba hia; have hlka : ∀ k, (Instr.lookup 117 (.map (some b)) (.int .i64 qa) false).run Tryd.prog (w14.drewN k) = .ok (.int .i64 va) (w14.drewN k) := fun k => hva.out ▸ (S14.out.drewN k).map.look hqa2 (by omega))
              go_quiet (fail)
              go_wp2_with fail
              obtain ⟨w9, hrun9, hS9, hg9⟩ := (S14.out.drewN (nq + 1)).update hqd2 (by omega) (by omega) (x := va) HOa.out
              have S9 := Lib.hid hS9
              have G9 := Lib.hid (grown_trans (grown_below2 G14.out (below_dd w14 (nq + 1))) hg9)
              clear hS9 hg9
              go_region
              all_goals
                go_wp2_with fail
                go_roundw
                case rel => exact ⟨j + 1, n9 + 1, _, by omega, by go_num, by omega, S9, G9, F2⟩
                case measure => simp [intOf]; omega
            · rw [if_neg hc2] at F2
              have hcb : (sc != 2) = true := by simpa using hc2
              clear hc2
              go_wp2_with (go_at_call 12; refine (refAsks_any ⟨sc, qd, qa, sb, se⟩ _).mono ?_; rintro r w14 ⟨AA, ca, rfl, hca, hia, hba⟩; have S14 := Lib.hid (S5.out.grow hba); have G14 := Lib.hid (grown_below2 G5.out hba); obtain ⟨x0, x1, x2, x3, x4, x5, x6, x7⟩ := r_cells S14.out.box; have f0 := cell_up hba e0; have f1 := cell_up hba e1; have f2 := cell_up hba e2; have f3 := cell_up hba e3; have f4 := cell_up hba e4; have hba' := Lib.hid hba; clear e0 e1 e2 e3 e4 hba hia; have hlka : ∀ k, (Instr.lookup 117 (.map (some b)) (.int .i64 qa) false).run Tryd.prog (w14.drewN k) = .ok (.int .i64 va) (w14.drewN k) := fun k => hva.out ▸ (S14.out.drewN k).map.look hqa2 (by omega))
              go_quiet (fail)
              go_wp2_with (go_at_call 67; refine (one_ref sc va _).mono ?_; rintro r w15 ⟨rfl, rfl⟩)
              obtain ⟨w9, hrun9, hS9, hg9⟩ := (S14.out.drewN (nq + 1)).update hqd2 (by omega) (by omega) (x := (oneV sc va)) (oneV_ok _ _)
              have S9 := Lib.hid hS9
              have G9 := Lib.hid (grown_trans (grown_below2 G14.out (below_dd w14 (nq + 1))) hg9)
              clear hS9 hg9
              go_region
              all_goals
                go_wp2_with fail
                go_roundw
                case rel => exact ⟨j + 1, n9 + 1, _, by omega, by go_num, by omega, S9, G9, F2⟩
                case measure => simp [intOf]; omega
          · obtain ⟨qa, hqa⟩ : ∃ q : Nat, sa = (q : Int) := Int.eq_ofNat_of_zero_le (GS.out.a (by show 1 ≤ arityV sc; omega)).1
            have hqa2 : qa < n1 := by have h := (GS.out.a (by show 1 ≤ arityV sc; omega)).2; simp only [] at h; omega
            subst hqa
            obtain ⟨va, hwa⟩ : ∃ v, v = V2.getD qa 0 := ⟨_, rfl⟩
            have hva : Hid (V2.getD qa 0 = va) := Lib.hid hwa.symm
            have hoa : okN va := by rw [hwa]; exact S5.out.ok _ (getD_mem (by rw [S5.out.len]; exact hqa2))
            have HOa := Lib.hid hoa
            obtain ⟨qb, hqb⟩ : ∃ q : Nat, sb = (q : Int) := Int.eq_ofNat_of_zero_le (GS.out.b (by show 2 ≤ arityV sc; omega)).1
            have hqb2 : qb < n1 := by have h := (GS.out.b (by show 2 ≤ arityV sc; omega)).2; simp only [] at h; omega
            subst hqb
            obtain ⟨vb, hwb⟩ : ∃ v, v = V2.getD qb 0 := ⟨_, rfl⟩
            have hvb : Hid (V2.getD qb 0 = vb) := Lib.hid hwb.symm
            have hob : okN vb := by rw [hwb]; exact S5.out.ok _ (getD_mem (by rw [S5.out.len]; exact hqb2))
            have HOb := Lib.hid hob
            have hval : valV N.nums V2 ⟨sc, qd, qa, qb, se⟩ = twoV sc va vb := by unfold valV; rw [if_neg (by show ¬ arityV sc = 0; omega), if_neg (by show ¬ arityV sc = 1; omega), if_pos har, hwa, hwb]; rfl
            rw [hval] at F2
            clear hval hwa hwb hoa hob
            go_wp2_with (go_at_call 12; refine (refAsks_any ⟨sc, qd, qa, qb, se⟩ _).mono ?_; rintro r w14 ⟨AA, ca, rfl, hca, hia, hba⟩; have S14 := Lib.hid (S5.out.grow hba); have G14 := Lib.hid (grown_below2 G5.out hba); obtain ⟨x0, x1, x2, x3, x4, x5, x6, x7⟩ := r_cells S14.out.box; have f0 := cell_up hba e0; have f1 := cell_up hba e1; have f2 := cell_up hba e2; have f3 := cell_up hba e3; have f4 := cell_up hba e4; have hba' := Lib.hid hba; clear e0 e1 e2 e3 e4 hba hia; have hlka : ∀ k, (Instr.lookup 117 (.map (some b)) (.int .i64 qa) false).run Tryd.prog (w14.drewN k) = .ok (.int .i64 va) (w14.drewN k) := fun k => hva.out ▸ (S14.out.drewN k).map.look hqa2 (by omega); have hlkb : ∀ k, (Instr.lookup 117 (.map (some b)) (.int .i64 qb) false).run Tryd.prog (w14.drewN k) = .ok (.int .i64 vb) (w14.drewN k) := fun k => hvb.out ▸ (S14.out.drewN k).map.look hqb2 (by omega))
            go_quiet ((go_at_call 68; refine Calls.quiet_of_same ((two_ref sc va vb (okN_is HOa.out) (okN_is HOb.out) _).mono (fun e w' h => ⟨h.1, h.2.symm⟩))))
            go_wp2_with fail
            obtain ⟨w9, hrun9, hS9, hg9⟩ := (S14.out.drewN (nq + 1)).update hqd2 (by omega) (by omega) (x := (twoV sc va vb)) (twoV_ok HOa.out)
            have S9 := Lib.hid hS9
            have G9 := Lib.hid (grown_trans (grown_below2 G14.out (below_dd w14 (nq + 1))) hg9)
            clear hS9 hg9
            go_region
            all_goals
              go_wp2_with fail
              go_roundw
              case rel => exact ⟨j + 1, n9 + 1, _, by omega, by go_num, by omega, S9, G9, F2⟩
              case measure => simp [intOf]; omega
          · obtain ⟨qa, hqa⟩ : ∃ q : Nat, sa = (q : Int) := Int.eq_ofNat_of_zero_le (GS.out.a (by show 1 ≤ arityV sc; omega)).1
            have hqa2 : qa < n1 := by have h := (GS.out.a (by show 1 ≤ arityV sc; omega)).2; simp only [] at h; omega
            subst hqa
            obtain ⟨va, hwa⟩ : ∃ v, v = V2.getD qa 0 := ⟨_, rfl⟩
            have hva : Hid (V2.getD qa 0 = va) := Lib.hid hwa.symm
            have hoa : okN va := by rw [hwa]; exact S5.out.ok _ (getD_mem (by rw [S5.out.len]; exact hqa2))
            have HOa := Lib.hid hoa
            obtain ⟨qb, hqb⟩ : ∃ q : Nat, sb = (q : Int) := Int.eq_ofNat_of_zero_le (GS.out.b (by show 2 ≤ arityV sc; omega)).1
            have hqb2 : qb < n1 := by have h := (GS.out.b (by show 2 ≤ arityV sc; omega)).2; simp only [] at h; omega
            subst hqb
            obtain ⟨vb, hwb⟩ : ∃ v, v = V2.getD qb 0 := ⟨_, rfl⟩
            have hvb : Hid (V2.getD qb 0 = vb) := Lib.hid hwb.symm
            have hob : okN vb := by rw [hwb]; exact S5.out.ok _ (getD_mem (by rw [S5.out.len]; exact hqb2))
            have HOb := Lib.hid hob
            obtain ⟨qe, hqe⟩ : ∃ q : Nat, se = (q : Int) := Int.eq_ofNat_of_zero_le (GS.out.e (by show 3 ≤ arityV sc; omega)).1
            have hqe2 : qe < n1 := by have h := (GS.out.e (by show 3 ≤ arityV sc; omega)).2; simp only [] at h; omega
            subst hqe
            obtain ⟨ve, hwe⟩ : ∃ v, v = V2.getD qe 0 := ⟨_, rfl⟩
            have hve : Hid (V2.getD qe 0 = ve) := Lib.hid hwe.symm
            have hoe : okN ve := by rw [hwe]; exact S5.out.ok _ (getD_mem (by rw [S5.out.len]; exact hqe2))
            have HOe := Lib.hid hoe
            have hval : valV N.nums V2 ⟨sc, qd, qa, qb, qe⟩ = pickV va vb ve := by unfold valV; rw [if_neg (by show ¬ arityV sc = 0; omega), if_neg (by show ¬ arityV sc = 1; omega), if_neg (by show ¬ arityV sc = 2; omega), hwa, hwb, hwe]; rfl
            rw [hval] at F2
            clear hval hwa hwb hwe hoa hob hoe
            go_wp2_with (go_at_call 12; refine (refAsks_any ⟨sc, qd, qa, qb, qe⟩ _).mono ?_; rintro r w14 ⟨AA, ca, rfl, hca, hia, hba⟩; have S14 := Lib.hid (S5.out.grow hba); have G14 := Lib.hid (grown_below2 G5.out hba); obtain ⟨x0, x1, x2, x3, x4, x5, x6, x7⟩ := r_cells S14.out.box; have f0 := cell_up hba e0; have f1 := cell_up hba e1; have f2 := cell_up hba e2; have f3 := cell_up hba e3; have f4 := cell_up hba e4; have hba' := Lib.hid hba; clear e0 e1 e2 e3 e4 hba hia; have hlka : ∀ k, (Instr.lookup 117 (.map (some b)) (.int .i64 qa) false).run Tryd.prog (w14.drewN k) = .ok (.int .i64 va) (w14.drewN k) := fun k => hva.out ▸ (S14.out.drewN k).map.look hqa2 (by omega); have hlkb : ∀ k, (Instr.lookup 117 (.map (some b)) (.int .i64 qb) false).run Tryd.prog (w14.drewN k) = .ok (.int .i64 vb) (w14.drewN k) := fun k => hvb.out ▸ (S14.out.drewN k).map.look hqb2 (by omega); have hlke : ∀ k, (Instr.lookup 117 (.map (some b)) (.int .i64 qe) false).run Tryd.prog (w14.drewN k) = .ok (.int .i64 ve) (w14.drewN k) := fun k => hve.out ▸ (S14.out.drewN k).map.look hqe2 (by omega))
            go_quiet ((go_at_call 69; refine Calls.quiet_of_same ((pick_ref va vb ve _).mono (fun e w' h => ⟨h.1, h.2.symm⟩))))
            go_wp2_with fail
            obtain ⟨w9, hrun9, hS9, hg9⟩ := (S14.out.drewN (nq + 1)).update hqd2 (by omega) (by omega) (x := (pickV va vb ve)) (pickV_ok HOb.out HOe.out)
            have S9 := Lib.hid hS9
            have G9 := Lib.hid (grown_trans (grown_below2 G14.out (below_dd w14 (nq + 1))) hg9)
            clear hS9 hg9
            go_region
            all_goals
              go_wp2_with fail
              go_roundw
              case rel => exact ⟨j + 1, n9 + 1, _, by omega, by go_num, by omega, S9, G9, F2⟩
              case measure => simp [intOf]; omega
        · have hd := H.out.i6.drop_end (k := j) (by omega)
          have F2 : Hid (V2 = runV N.nums N.code V') := Lib.hid (by have h := F.out; rw [hd] at h; exact h)
          have HM : Hid (m < w.heap.size) := Lib.hid (lt_of_block M.out.box)
          have HK : Hid (b < w.heap.size) := Lib.hid M.out.map.lt
          have HW : Hid (W.heap.size ≤ w.heap.size) := Lib.hid M.out.below.size
          clear F hd
          obtain ⟨x0, x1, x2, x3, x4, x5, x6, x7⟩ := r_cells S.out.box
          go_wp2_with fail
          clear x0 x1 x2 x3 x4 x5 x6 x7
          go_loopw [10, 143] (fun v i wr => ∃ k : Nat, k ≤ n3 ∧ i = .int .i64 k ∧ wr.ownsRow w.heap.size 2 1 v k (((N.outs.take k).map (atV V2)).map (Value.int .i64)) ∧ Hid (RMs W wr m b n9 [.int .i64 n1, .slice A1 n1 c1, .slice A2 n2 c2, .slice A3 n3 c3, .slice A4 n4 c4, .slice A5 n5 c5, .slice A6 n6 c6] n1 V2) ∧ Hid (w.grownBy wr (some b))) (fun _ i _ => n3 - (intOf i).toNat)
          case atStart => exact ⟨0, Nat.zero_le _, rfl, by simpa using World.ownsRow_nil _ _ _ _, S, G⟩
          case round =>
            clear S G
            obtain ⟨k, hk, rfl, hown, S, G⟩ := hrel
            by_cases hlt : k < n3
            · have I3 := H.out.i3.up S.out.below
              obtain ⟨bb, o, rfl, hc⟩ := I3.2 (by omega)
              have hck := hc k hlt
              have hmm := HG.out.outs _ (getD_mem (xs := N.outs) (k := k) (by omega))
              obtain ⟨q, hq⟩ := Int.eq_ofNat_of_zero_le hmm.1
              have hq2 : q < n1 := by have := hmm.2; omega
              have ht := take_snocD (xs := N.outs) (n := n3) l3 hlt
              rw [hq] at hck ht
              obtain ⟨vq, hvq⟩ : ∃ v, v = V2.getD q 0 := ⟨_, rfl⟩
              have HT : Hid (((N.outs.take (k + 1)).map (atV V2)).map (Value.int .i64) = ((N.outs.take k).map (atV V2)).map (Value.int .i64) ++ [Value.int .i64 vq]) := Lib.hid (by rw [ht, List.map_append, List.map_append, hvq]; rfl)
              have hlk := S.out.map.look hq2 (by omega)
              rw [← hvq] at hlk
              obtain ⟨ys, hys⟩ : ∃ ys, ys = ((N.outs.take k).map (atV V2)).map (Value.int .i64) := ⟨_, rfl⟩
              rw [← hys] at hown HT
              have HO := Lib.hid hown
              have HSZ : Hid (w.heap.size ≤ wr.heap.size) := Lib.hid G.out.size
              obtain ⟨x0, x1, x2, x3, x4, x5, x6, x7⟩ := r_cells S.out.box
              clear hc I3 hmm hq ht hvq hys hown
              go_wp2_with (at_builtin; refine wpList_append_own _ rfl _ _ 22 rfl w.heap.size 2 i0 (.int .i64 0) 1 8 Tryd.underlying22 hi0 hz0 hz1 hz2 rfl (by decide) _ _ _ rfl (HO.out.alloc _) ⟨wr.heap.size, 0, none⟩ 1 1 [Value.int .i64 vq] rfl rfl ?c1 ?c2 ?c3 ?c4 ?c5 ?_)
              case c1 =>
                intro j u hj
                match j, hj with
                | 0, hj => simp at hj; subst hj; simp [Addr.add]
              case c2 => intro u hu; simp at hu; subst hu; rfl
              case c3 => unfold maxLen; omega
              case c4 => omega
              case c5 => have := HSZ.out; simp; omega
              intro v' w1 hown' hgrow _
              have S1 := (S.out.grow ((Below.refl wr.heap.size wr).alloc (Nat.le_refl _) (.cells #[.int .i64 vq] 2)))
              have S2 := Lib.hid (S1.other hgrow (fun e => by have h1 := (own_lt' HO.out m e.symm).1; have h2 := HM.out; omega) (fun e => by have h1 := (own_lt' HO.out b e.symm).1; have h2 := HK.out; omega) (fun x e => Nat.le_trans HW.out (own_lt' HO.out x e).1))
              have G2 := Lib.hid (grown_own2 (grown_below2 G.out ((Below.refl wr.heap.size wr).alloc (Nat.le_refl _) (.cells #[.int .i64 vq] 2))) hgrow (fun x e => (own_lt' HO.out x e).1))
              have HO2 := Lib.hid hown'
              clear S1 hgrow hown' x0 x1 x2 x3 x4 x5 x6 x7 hlk
              go_wp2_with fail
              go_roundw
              case rel => exact ⟨k + 1, by omega, by go_num, by rw [HT.out]; exact HO2.out, S2, G2⟩
              case measure => simp [intOf]; omega
            · have hke : k = n3 := by omega
              subst hke
              rw [List.take_of_length_le (by rw [l3]; exact Nat.le_refl _)] at hown
              obtain ⟨OA, oc, rfl⟩ := own_slice' hown
              have HO := Lib.hid hown
              clear hown
              have hmk : ∀ X : World, (Instr.makeMap 117 none).run Tryd.prog X = .ok (.map (some X.heap.size)) (X.alloc (.map #[] 0)) := fun X => by kernel_rfl
              have hb0 := (Below.refl wr.heap.size wr).alloc (Nat.le_refl _) (.map #[] 0)
              have S0 := Lib.hid (S.out.grow hb0)
              have G0 := Lib.hid (grown_below2 G.out hb0)
              have O0 := Lib.hid (HO.out.alloc (.map #[] 0))
              have M0 := Lib.hid (MapAt.made wr n1)
              have HB2 : Hid (w.heap.size ≤ wr.heap.size) := Lib.hid G.out.size
              clear hb0
              go_upto_region 32 with fail
              obtain ⟨b2', hb2'⟩ : ∃ x, x = wr.heap.size := ⟨_, rfl⟩
              obtain ⟨W0, hW0⟩ : ∃ X, X = wr.alloc (.map #[] 0) := ⟨_, rfl⟩
              rw [← hb2'] at M0 HB2
              rw [← hW0] at S0 G0 O0 M0
              rw [← hb2', ← hW0]
              clear hb2' hW0 S G HO hmk
              obtain ⟨x0, x1, x2, x3, x4, x5, x6, x7⟩ := r_cells S0.out.box
              go_wp2_with fail
              clear x0 x1 x2 x3 x4 x5 x6 x7
              go_loopw [164] (fun i wr => ∃ (j nn : Nat) (V3 : List Int), j ≤ n4 ∧ i = .int .i64 j ∧ nn ≤ j ∧ Hid (wr.ownsRow w.heap.size 2 1 (.slice OA k oc) k ((N.outs.map (atV V2)).map (Value.int .i64))) ∧ Hid (RMs W wr m b n9 [.int .i64 n1, .slice A1 n1 c1, .slice A2 n2 c2, .slice A3 k c3, .slice A4 n4 c4, .slice A5 n5 c5, .slice A6 n6 c6] n1 V2) ∧ Hid (w.grownBy wr (some b)) ∧ Hid (MapAt wr b2' nn n1 V3) ∧ Hid (V3.length = n1 ∧ ∀ x ∈ V3, okN x) ∧ Hid (∀ q, q < n1 → V3.getD q 0 = if q ∈ (N.keeps.take j).map Int.toNat then V2.getD q 0 else 0)) (fun i _ => n4 - (intOf i).toNat)
              case atStart => exact ⟨0, 0, _, Nat.zero_le _, rfl, Nat.le_refl _, O0, S0, G0, M0, Lib.hid ⟨by simp, fun x hx => by rw [(List.mem_replicate.1 hx).2]; exact okN_nat (n := 0) (by decide)⟩, Lib.hid (fun q hq => by rw [List.getD_eq_getElem?_getD, List.getElem?_replicate]; simp [hq])⟩
              case round =>
                clear S0 G0 O0 M0
                obtain ⟨j, nn, V3, hj, rfl, hnn2, HO, S, G, MM, L3, F⟩ := hrel
                have MM' := Lib.hid MM.out
                by_cases hlt2 : j < n4
                · have I4 := H.out.i4.up S.out.below
                  obtain ⟨bb, o, rfl, hc⟩ := I4.2 (by omega)
                  have hck := hc j hlt2
                  have hmm := HG.out.keeps _ (getD_mem (xs := N.keeps) (k := j) (by omega))
                  obtain ⟨q, hq⟩ := Int.eq_ofNat_of_zero_le hmm.1
                  have hq2 : q < n1 := by have := hmm.2; omega
                  have ht := take_snocD (xs := N.keeps) (n := n4) l4 hlt2
                  rw [hq] at hck ht
                  obtain ⟨vq, hvq⟩ : ∃ v, v = V2.getD q 0 := ⟨_, rfl⟩
                  have hlk := S.out.map.look hq2 (by omega)
                  rw [← hvq] at hlk
                  have hvo : okN vq := by rw [hvq]; exact S.out.ok _ (getD_mem (by rw [S.out.len]; exact hq2))
                  obtain ⟨wu, hrun, hMu, hgu⟩ := MM.out.update L3.out.1 hq2 (by omega) (by omega) hvo
                  have F' : Hid (∀ x, x < n1 → (V3.set q vq).getD x 0 = if x ∈ (N.keeps.take (j + 1)).map Int.toNat then V2.getD x 0 else 0) := Lib.hid fun x hx => by
                    rw [ht, List.map_append, List.map_cons, List.map_nil, Int.toNat_natCast]
                    by_cases e : x = q
                    · subst e
                      rw [List.getD_eq_getElem?_getD, List.getElem?_set_self (by rw [L3.out.1]; exact hx), if_pos (by simp)]
                      exact hvq
                    · rw [List.getD_eq_getElem?_getD, List.getElem?_set_ne (fun h => e h.symm), ← List.getD_eq_getElem?_getD, F.out x hx]
                      simp [e]
                  have L' : Hid ((V3.set q vq).length = n1 ∧ ∀ x ∈ V3.set q vq, okN x) := Lib.hid ⟨by rw [List.length_set]; exact L3.out.1, okN_set L3.out.2 hvo⟩
                  have S' := Lib.hid (S.out.other hgu (fun e => by have h1 := HB2.out; have h2 := HM.out; have := Option.some.inj e; omega) (fun e => by have h1 := HB2.out; have h2 := HK.out; have := Option.some.inj e; omega) (fun x e => by have h1 := HB2.out; have h2 := HW.out; have := Option.some.inj e; omega))
                  have G' := Lib.hid (grown_own2 G.out hgu (fun x e => by have h1 := HB2.out; have := Option.some.inj e; omega))
                  have O' := Lib.hid (HO.out.kept hgu (own_not_map HO.out MM.out))
                  have MU := Lib.hid hMu
                  obtain ⟨x0, x1, x2, x3, x4, x5, x6, x7⟩ := r_cells S.out.box
                  clear hc I4 hmm hq ht hvq hMu hgu hvo
                  go_wp2_with fail
                  go_roundw
                  case rel => exact ⟨j + 1, nn + 1, _, by omega, by go_num, by omega, O', S', G', MU, L', F'⟩
                  case measure => simp [intOf]; omega
                · have hje : j = n4 := by omega
                  subst hje
                  rw [List.take_of_length_le (by rw [l4]; exact Nat.le_refl _)] at F
                  obtain ⟨x0, x1, x2, x3, x4, x5, x6, x7⟩ := r_cells S.out.box
                  have xf := blk_free S.out.box
                  have hmb : m ≠ b2' := by have h1 := HB2.out; have h2 := HM.out; omega
                  go_wp2_with fail
                  go_ret
                  refine ⟨OA, k, oc, b2', nn, V3, wr, rfl, ?_, by omega, ⟨below_grow S.out.below (set_grown _ _ _ _) S.out.lo, S.out.lo, Nat.le_trans HW.out HB2.out, ?_, MM.out.kept (set_grown _ _ _ _) (by simpa using hmb.symm), L3.out.1, L3.out.2⟩, ?_, G.out, set_grown _ _ _ _⟩
                  · rw [← HV1.out, ← F2.out]
                    exact row_kept HO.out (set_grown _ _ _ _) (fun x e => by have h2 := HM.out; have := Option.some.inj e; omega)
                  · exact set_block S.out.box
                  · rw [← HV1.out, ← F2.out]
                    exact F.out
end Go.Proofs.YtgglbjniclkkpaaDoor

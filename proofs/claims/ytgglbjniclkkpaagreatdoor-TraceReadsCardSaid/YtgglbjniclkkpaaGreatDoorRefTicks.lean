/-
  ref.ReadTicks.
-/
import Derived.Test.YtgglbjniclkkpaaGreatDoorOst
import Derived.Deep.RegionWith
namespace Go.Proofs.YtgglbjniclkkpaaGreatDoor
open Go.RowKit
set_option linter.unusedVariables false

theorem bare_any (e : Int) (w : World) : Calls Tryz.prog 14 #[.int .i64 e] w fun r w' => r = .returned (.agg #[.int .i64 e, .int .i64 (-1)]) ∧ Below w.heap.size w w' := by
  go_enter Tryz.func14, Tryz.ntmps14
  go_wp2
  exact bodyPost_ret (v := .agg #[.int .i64 e, .int .i64 (-1)]) (by simp [results, Tryz.results14, go_sem]) rfl ⟨rfl, (Below.refl _ _).alloc (Nat.le_refl _) _⟩
theorem two_cells {w : World} {g : Nat} {c0 c1 : Value} {T : TypeId} (h : w.heap[g]? = some (.cells #[c0, c1] T (0, 0))) : w.cell? ⟨g, 0, none⟩ = some c0 ∧ w.cell? ⟨g, 1, none⟩ = some c1 := by
  refine ⟨?_, ?_⟩ <;> simp [World.cell?, h]
set_option maxHeartbeats 4000000 in
set_option maxRecDepth 100000 in
theorem refTicks_any (s : ByteArray) (hs : s.size ≤ 1500) (w : World) (h : Env w) : Calls Tryz.prog 5 #[.string s] w fun e w' => ∃ A n c, e = .returned (.tuple #[.slice A n c, .agg #[.int .i64 (readV s).2.1, .int .i64 (readV s).2.2]]) ∧ n ≤ 60 ∧ TicksAt w' A n (readV s).1 ∧ Below w.heap.size w w' := by
  have B0 := Lib.hid ((Below.refl w.heap.size w).alloc (Nat.le_refl _) (.cells #[.int .i64 0, .int .i64 0] 26))
  have E0 := Lib.hid (h.up B0.out)
  have f0 := E0.out.fine0
  have f1 := E0.out.fine1
  clear h
  by_cases he : s = ⟨#[]⟩
  · have HV : Hid (readV s = ([], 0, -1)) := Lib.hid (by unfold readV; rw [if_pos he])
    subst he
    go_enter Tryz.func5, Tryz.ntmps5
    go_wp2_with fail
    go_region
    all_goals
      go_wp2_with fail
      exact bodyPost_ret (v := .tuple #[.slice none 0 0, .agg #[.int .i64 0, .int .i64 (-1)]]) (by simp [results, Tryz.results5, go_sem]) rfl ⟨none, 0, 0, by rw [HV.out], by omega, by rw [HV.out]; exact TicksAt.nil _, ((Below.refl _ _).alloc (Nat.le_refl _) _).drew⟩
  · have hne := isEmpty_ne he
    have HV : Hid (readV s = ticksGo [] (linesV s)) := Lib.hid (by unfold readV; rw [if_neg he])
    have HL := Lib.hid (lines_any s hs _ E0.out)
    have G0 := Lib.hid (heap_alloc_new w (.cells #[.int .i64 0, .int .i64 0] 26))
    have BR := Lib.hid (fun (e : Int) (W : World) => bare_any e W)
    obtain ⟨i0, hi, hz0, hz1, hz2⟩ := info_parts infoI
    obtain ⟨i1, hi1, hy0, hy1, hy2⟩ := info_parts infoRow
    obtain ⟨g3, hg3⟩ : ∃ g, g = w.heap.size := ⟨_, rfl⟩
    rw [← hg3] at G0
    go_enter Tryz.func5, Tryz.ntmps5
    go_wp2_with (go_at_call 11; refine HL.out.mono ?_; rintro r w1 ⟨A, n, c, rfl, hn, hst, hb1⟩)
    rw [← hg3]
    have G1 := Lib.hid (grown_blk (grown_below none hb1) G0.out (by simp))
    have H1 := Lib.hid hst
    have B1 := Lib.hid (below_up B0.out hb1)
    have E1 := Lib.hid (E0.out.up hb1)
    have G3 := Lib.hid (Nat.le_of_eq hg3.symm)
    clear hst hb1 B0 E0 G0 f0 f1 hg3
    go_loopw [4, 18] (fun v i wr => ∃ (k : Nat) (rs : List RD), k ≤ n ∧ k ≤ 60 ∧ rs.length = k ∧ i = .int .i64 k ∧ Hid (OSt w1 wr v rs) ∧ Hid (ticksGo (rs.map RD.xs) ((linesV s).drop k) = readV s)) (fun _ i _ => n - (intOf i).toNat)
    case atStart => exact ⟨0, [], Nat.zero_le _, Nat.zero_le _, rfl, rfl, Lib.hid (OSt.nil _), Lib.hid (by rw [List.drop_zero]; exact HV.out.symm)⟩
    case round =>
      obtain ⟨k, rs, hk, hk60, hrs, rfl, OO, F⟩ := hrel
      have G := Lib.hid (grown_blk (grown_below none OO.out.below) G1.out (by simp))
      have E := Lib.hid (E1.out.up OO.out.below)
      by_cases hlt : k < n
      · obtain ⟨b, o, rfl, hc⟩ := (H1.out.up OO.out.below).2 (by omega)
        obtain ⟨x, hx, hcx⟩ := hc k hlt
        have hxs : x.size ≤ 1500 := Nat.le_trans (line_size (List.mem_of_getElem? hx)) hs
        have hdr : (linesV s).drop k = x :: (linesV s).drop (k + 1) := by
          obtain ⟨hl', e⟩ := List.getElem?_eq_some_iff.1 hx
          rw [List.drop_eq_getElem_cons hl', e]
        have F2 : Hid ((match rowGo [] (wordsV x) with | none => ([], 3, (k : Int)) | some row => if 60 ≤ k then ([], 4, -1) else ticksGo (rs.map RD.xs ++ [row]) ((linesV s).drop (k + 1))) = readV s) := Lib.hid (by have h := F.out; rw [hdr, ticksGo, List.length_map, hrs] at h; exact h)
        have HWD := Lib.hid (words_any x hxs wr E.out)
        have i0' : (0 : Int) ≤ (k : Int) := by omega
        have i1' : (k : Int) < (n : Int) := by omega
        clear hc hdr hx F
        go_wp2_with (go_at_call 12; refine HWD.out.mono ?_; rintro r w2 ⟨A2, n2, c2, rfl, hn2, hst2, hb2⟩)
        have H2 := Lib.hid hst2
        have O2 := Lib.hid (OO.out.grow hb2)
        have E2 := Lib.hid (E.out.up hb2)
        have G2 := Lib.hid (grown_blk (grown_below none hb2) G.out (by simp))
        clear hst2 hb2 HWD hcx OO E G
        go_loopw [7, 26] (fun l i wr2 => ∃ (j : Nat) (ys : List Int), j ≤ n2 ∧ ys.length = j ∧ i = .int .i64 j ∧ Hid (wr2.ownsRow w2.heap.size 2 1 l j (ys.map (Value.int .i64))) ∧ Hid (Below w2.heap.size w2 wr2) ∧ Hid (rowGo ys ((wordsV x).drop j) = rowGo [] (wordsV x))) (fun _ i _ => n2 - (intOf i).toNat)
        case atStart => exact ⟨0, [], Nat.zero_le _, rfl, rfl, Lib.hid (World.ownsRow_nil _ _ _ _), Lib.hid (Below.refl _ _), Lib.hid (by rw [List.drop_zero])⟩
        case round =>
          obtain ⟨j, ys, hj, hys, rfl, RR, BB, FF⟩ := hrel
          by_cases hlt2 : j < n2
          · obtain ⟨b', o', rfl, hc⟩ := (H2.out.up BB.out).2 (by omega)
            obtain ⟨y, hy, hcy⟩ := hc j hlt2
            have hys2 : y.size ≤ 1500 := Nat.le_trans (word_size (List.mem_of_getElem? hy)) hxs
            have hdr : (wordsV x).drop j = y :: (wordsV x).drop (j + 1) := by
              obtain ⟨hl', e⟩ := List.getElem?_eq_some_iff.1 hy
              rw [List.drop_eq_getElem_cons hl', e]
            have E3 := Lib.hid (E2.out.up BB.out)
            have HN := Lib.hid (num_any y (by omega) wr E3.out)
            have j0' : (0 : Int) ≤ (j : Int) := by omega
            have j1' : (j : Int) < (n2 : Int) := by omega
            rcases hnum : numV y with _ | v
            · rw [hnum] at HN
              simp only [Option.isSome_none] at HN
              have FR : Hid (readV s = ([], 3, (k : Int))) := Lib.hid (by
                have h := FF.out
                rw [hdr, rowGo, hnum] at h
                have h2 := F2.out
                rw [← h] at h2
                exact h2.symm)
              have G4 := grown_blk (grown_below none BB.out) G2.out (by simp)
              have BF := Lib.hid (below_up B1.out (O2.out.grow BB.out).below)
              clear hc hdr hy FF F2
              go_upto_region 12 with (go_at_call 13; refine HN.out.mono ?_; rintro r w4 ⟨v, rfl, hb4, _⟩)
              have G5 := grown_blk (grown_below none hb4) G4 (by simp)
              have f5 := blk_free G5
              obtain ⟨s0, s1⟩ := two_cells G5
              have BX := Lib.hid (below_up BF.out hb4)
              clear hb4
              go_wp2_with fail
              exact bodyPost_ret (v := .tuple #[.slice none 0 0, .agg #[.int .i64 3, .int .i64 k]]) (by simp [results, Tryz.results5, go_sem, s0, s1]) rfl ⟨none, 0, 0, by rw [FR.out], by omega, by rw [FR.out]; exact TicksAt.nil _, below_grow (below_grow BX.out (set_grown _ g3 0 _) G3.out) (set_grown _ g3 1 _) G3.out⟩
            · rw [hnum] at HN
              simp only [Option.isSome_some] at HN
              have FF2 : Hid (rowGo (ys ++ [v]) ((wordsV x).drop (j + 1)) = rowGo [] (wordsV x)) := Lib.hid (by have h := FF.out; rw [hdr, rowGo, hnum] at h; exact h)
              clear hc hdr hy FF
              go_upto_region 14 with (go_at_call 13; refine HN.out.mono ?_; rintro r w4 ⟨v', rfl, hb4, hv⟩; obtain rfl := hv v rfl; have R4 := Lib.hid (row_grow2 RR.out hb4); have B4 := Lib.hid (below_up BB.out hb4))
              go_wp2_with (at_builtin; refine wpList_append_own _ rfl _ _ 36 rfl w2.heap.size 2 i0 (.int .i64 0) 1 8 Tryz.underlying36 hi hz0 hz1 hz2 rfl (by decide) _ _ _ rfl (R4.out.alloc _) ⟨w4.heap.size, 0, none⟩ 1 1 [Value.int .i64 v'] rfl rfl ?c1 ?c2 ?c3 ?c4 ?c5 ?_)
              case c1 => exact World.news_of_block (cs := #[Value.int .i64 v']) (t := 2) (fr := (0, 0)) (heap_alloc_new w4 _)
              case c2 => simp [Value.oneCell']
              case c3 => unfold maxLen; omega
              case c4 => omega
              case c5 => have := B4.out.size; simp; omega
              intro v2 w5 hown hgrow _
              have B5 := Lib.hid (below_own (B4.out.alloc B4.out.size _) hgrow (fun x e => (own_lt' R4.out x e).1))
              have R5 : Hid (w5.ownsRow w2.heap.size 2 1 v2 (j + 1) ((ys ++ [v']).map (Value.int .i64))) := Lib.hid (by rw [List.map_append]; exact hown)
              obtain ⟨A', c', rfl⟩ := own_slice' hown
              clear hown hgrow
              go_wp2_with fail
              go_roundw
              case rel => exact ⟨j + 1, ys ++ [v'], by omega, by simp [hys], by go_num, R5, B5, FF2⟩
              case measure => simp [intOf]; omega
          · have FR : Hid (rowGo [] (wordsV x) = some ys) := Lib.hid (by have h := FF.out; rw [List.drop_of_length_le (by rw [H2.out.1]; omega), rowGo] at h; exact h.symm)
            have G4 := grown_blk (grown_below none BB.out) G2.out (by simp)
            have f5 := blk_free G4
            obtain ⟨s0, s1⟩ := two_cells G4
            have O4 := Lib.hid (O2.out.grow BB.out)
            clear FF
            by_cases h60 : k < 60
            · have hd : decide ((60 : Int) ≤ (k : Int)) = false := by simp; omega
              obtain ⟨RA, rc, rfl⟩ := own_slice' RR.out
              have FX : Hid (ticksGo ((rs ++ [RD.mk RA j rc ys]).map RD.xs) ((linesV s).drop (k + 1)) = readV s) := Lib.hid (by
                have h := F2.out
                rw [FR.out] at h
                simp only [] at h
                rw [if_neg (by omega)] at h
                rw [List.map_append]
                exact h)
              have RQ := Lib.hid (own_base RR.out O2.out.below.size)
              clear F2
              go_wp2_with (at_builtin; refine wpList_append_own _ rfl _ _ 22 rfl w1.heap.size 36 i1 (.slice none 0 0) 1 24 Tryz.underlying22 hi1 hy0 hy1 hy2 rfl (by decide) _ _ _ rfl (O4.out.own.alloc _) ⟨wr.heap.size, 0, none⟩ 1 1 [Value.slice RA j rc] rfl rfl ?c1 ?c2 ?c3 ?c4 ?c5 ?_)
              case c1 => exact World.news_of_block (cs := #[Value.slice RA j rc]) (t := 36) (fr := (0, 0)) (heap_alloc_new wr _)
              case c2 => simp [Value.oneCell']
              case c3 => unfold maxLen; omega
              case c4 => omega
              case c5 => have := O4.out.below.size; simp; omega
              intro v2 w5 hown hgrow _
              have O5 := Lib.hid ((O4.out.grow ((Below.refl _ _).alloc (Nat.le_refl _) _)).append (RD.mk RA j rc ys) (RQ.out.alloc _) hgrow (by rw [hrs]; exact hown))
              obtain ⟨A', c', rfl⟩ := own_slice' hown
              clear hown hgrow
              go_wp2_with fail
              go_roundw
              case rel => exact ⟨k + 1, rs ++ [RD.mk RA j rc ys], by omega, by omega, by simp [hrs], by go_num, O5, FX⟩
              case measure => simp [intOf]; omega
            · have hd : decide ((60 : Int) ≤ (k : Int)) = true := by simp; omega
              have FX : Hid (readV s = ([], 4, -1)) := Lib.hid (by have h := F2.out; rw [FR.out] at h; simp only [] at h; rw [if_pos (by omega)] at h; exact h.symm)
              go_upto_region 17 with fail
              go_wp2_with (go_at_call 14; refine (BR.out 4 _).mono ?_; rintro r w4 ⟨rfl, hb4⟩; have G5 := grown_blk (grown_below none hb4) G4 (by simp); have f6 := blk_free G5; have t01 := two_cells G5; obtain ⟨t0, t1⟩ := t01)
              exact bodyPost_ret (v := .tuple #[.slice none 0 0, .agg #[.int .i64 4, .int .i64 (-1)]]) (by simp [results, Tryz.results5, go_sem, t0, t1]) rfl ⟨none, 0, 0, by rw [FX.out], by omega, by rw [FX.out]; exact TicksAt.nil _, below_grow (below_grow (below_up (below_up B1.out O4.out.below) hb4) (set_grown _ g3 0 _) G3.out) (set_grown _ g3 1 _) G3.out⟩
      · obtain rfl : n = k := by omega
        have FX : Hid (readV s = (rs.map RD.xs, 0, -1)) := Lib.hid (by have h := F.out; rw [List.drop_of_length_le (by rw [H1.out.1]; omega), ticksGo] at h; exact h.symm)
        obtain ⟨OA, oc, rfl⟩ := own_slice' OO.out.own
        have f5 := blk_free G.out
        obtain ⟨s0, s1⟩ := two_cells G.out
        have q0 := E.out.fine0
        have q1 := E.out.fine1
        have OF := Lib.hid ((((OO.out.base B1.out).set G.out (by decide) (by decide) G3.out 0 (.int .i64 0)).set (set_block G.out) (by decide) (by decide) G3.out 1 (.int .i64 (-1))).drew)
        clear F
        go_wp2_with fail
        go_region
        all_goals
          go_wp2_with fail
          exact bodyPost_ret (v := .tuple #[.slice OA rs.length oc, .agg #[.int .i64 0, .int .i64 (-1)]]) (by simp [results, Tryz.results5, go_sem, s0, s1]) rfl ⟨OA, rs.length, oc, by rw [FX.out], by omega, by rw [FX.out]; exact OF.out.ticks.2, OF.out.below⟩
end Go.Proofs.YtgglbjniclkkpaaGreatDoor

/-
  trace.Read.
-/
import Derived.Test.YtgglbjniclkkpaaGreatDoorLst
import Derived.Deep.AppendLies
namespace Go.Proofs.YtgglbjniclkkpaaGreatDoor
open Go.RowKit Go.Shelf
set_option linter.unusedVariables false
attribute [local go_sem] Oper.semAt_some

theorem trim_lines (s : ByteArray) (h : ¬ s = ⟨#[]⟩) : piecesV 10 (ofL (Lib.trimSuffix s.data.toList [10])) = linesV s := by
  have hne : s.data.toList ≠ [] := by
    intro e
    exact h (by rw [← ofL_toList s, e]; rfl)
  obtain ⟨l, hl⟩ : ∃ l, l = s.data.toList := ⟨_, rfl⟩
  unfold linesV piecesV
  rw [toList_ofL, ← hl]
  rw [← hl] at hne
  have hsplit := List.dropLast_concat_getLast hne
  obtain ⟨u, hu⟩ : ∃ u, u = l.dropLast := ⟨_, rfl⟩
  obtain ⟨b, hb⟩ : ∃ b, b = l.getLast hne := ⟨_, rfl⟩
  rw [← hu, ← hb] at hsplit
  rw [← hsplit]
  by_cases hb10 : b = 10
  · subst hb10
    have e1 : Lib.trimSuffix (u ++ [10]) [10] = u := by
      unfold Lib.trimSuffix Lib.hasSuffix
      rw [if_pos (by simp)]
      simp
    rw [e1, pieces_snoc]
    rw [List.map_append]
    have hp : (piecesGo 10 [] u).map ofL ≠ [] := by simpa using pieces_ne 10 u []
    rw [if_pos]
    · simp
    · refine ⟨?_, ?_⟩
      · have : 0 < ((piecesGo 10 [] u).map ofL).length := List.length_pos_iff.2 hp
        rw [List.length_append]
        simp only [List.length_cons, List.length_nil, List.map_cons, List.map_nil]
        omega
      · simp [ofL]
  · have e1 : Lib.trimSuffix (u ++ [b]) [10] = u ++ [b] := by
      unfold Lib.trimSuffix Lib.hasSuffix
      rw [if_neg]
      simp only [List.isSuffixOf_iff_suffix]
      rintro ⟨t, ht⟩
      have := List.append_inj_right' ht rfl
      simp only [List.cons.injEq, and_true] at this
      exact hb10 this.symm
    rw [e1, if_neg]
    rintro ⟨_, h2⟩
    obtain ⟨i, x, e⟩ := pieces_last 10 b hb10 u []
    rw [e] at h2
    simp only [List.map_append, List.map_cons, List.map_nil, List.getLast?_append, List.getLast?_singleton, Option.some_or, Option.some.injEq] at h2
    have := congrArg (fun (q : ByteArray) => q.data.toList) h2
    simp [ofL] at this
theorem six_blocks (w : World) (o0 o1 o2 o3 o4 o5 : Obj) {W : World} (hW : W = (((((w.alloc o0).alloc o1).alloc o2).alloc o3).alloc o4).alloc o5) :
    W.heap[w.heap.size]? = some o0 ∧ W.heap[w.heap.size + 1]? = some o1 ∧ W.heap[w.heap.size + 1 + 1]? = some o2 ∧ W.heap[w.heap.size + 1 + 1 + 1]? = some o3 ∧ W.heap[w.heap.size + 1 + 1 + 1 + 1]? = some o4 ∧ W.heap[w.heap.size + 1 + 1 + 1 + 1 + 1]? = some o5 ∧ W.heap.size = w.heap.size + 6 ∧ Below w.heap.size w W := by
  have s1 : (w.alloc o0).heap.size = w.heap.size + 1 := World.size_alloc _ _
  have s2 : ((w.alloc o0).alloc o1).heap.size = w.heap.size + 1 + 1 := by rw [World.size_alloc, s1]
  have s3 : (((w.alloc o0).alloc o1).alloc o2).heap.size = w.heap.size + 1 + 1 + 1 := by rw [World.size_alloc, s2]
  have s4 : ((((w.alloc o0).alloc o1).alloc o2).alloc o3).heap.size = w.heap.size + 1 + 1 + 1 + 1 := by rw [World.size_alloc, s3]
  have s5 : (((((w.alloc o0).alloc o1).alloc o2).alloc o3).alloc o4).heap.size = w.heap.size + 1 + 1 + 1 + 1 + 1 := by rw [World.size_alloc, s4]
  have h0 := heap_alloc_new w o0
  have h1 := heap_alloc_new (w.alloc o0) o1
  have h2 := heap_alloc_new ((w.alloc o0).alloc o1) o2
  have h3 := heap_alloc_new (((w.alloc o0).alloc o1).alloc o2) o3
  have h4 := heap_alloc_new ((((w.alloc o0).alloc o1).alloc o2).alloc o3) o4
  have h5 := heap_alloc_new (((((w.alloc o0).alloc o1).alloc o2).alloc o3).alloc o4) o5
  rw [s1] at h1
  rw [s2] at h2
  rw [s3] at h3
  rw [s4] at h4
  rw [s5] at h5
  subst hW
  exact ⟨blk_old _ (blk_old _ (blk_old _ (blk_old _ (blk_old _ h0)))), blk_old _ (blk_old _ (blk_old _ (blk_old _ h1))), blk_old _ (blk_old _ (blk_old _ h2)), blk_old _ (blk_old _ h3), blk_old _ h4, h5, by rw [World.size_alloc, s5],
    (((((((Below.refl _ w).alloc (Nat.le_refl _) _).alloc (by rw [s1]; omega) _).alloc (by rw [s2]; omega) _).alloc (by rw [s3]; omega) _).alloc (by rw [s4]; omega) _).alloc (by rw [s5]; omega) _)⟩
set_option maxRecDepth 100000 in
set_option maxHeartbeats 8000000 in
theorem read_any (s : ByteArray) (hs : s.size ≤ 1500) (w : World) (h : Env w) : Calls Tryz.prog 6 #[.string s] w fun e w' => ∃ A n c ev, e = .returned (.tuple #[.slice A n c, ev]) ∧ n ≤ 60 ∧ TicksAt w' A n (readV s).1 ∧ ErrAt w' ev (readV s).2.1 (readV s).2.2 ∧ Below w.heap.size w w' := by
  by_cases he : s = ⟨#[]⟩
  · have HV : Hid (readV s = ([], 0, -1)) := Lib.hid (by unfold readV; rw [if_pos he])
    subst he
    clear h
    go_enter Tryz.func6, Tryz.ntmps6
    go_wp2_with fail
    exact bodyPost_ret (v := .tuple #[.slice none 0 0, .nilIface]) (by simp [results, Tryz.results6, go_sem]) rfl ⟨none, 0, 0, .nilIface, rfl, by omega, by rw [HV.out]; exact TicksAt.nil _, by rw [HV.out]; exact .inl ⟨rfl, rfl, rfl⟩, ((((Below.refl _ _).alloc (Nat.le_refl _) _).alloc (by simp) _).alloc (by simp; omega) _)⟩
  · have hne := isEmpty_ne he
    have HT : Hid (piecesV 10 (ofL (Lib.trimSuffix s.data.toList [10])) = linesV s) := Lib.hid (trim_lines s he)
    have HTS := fun W => Tryz.strings_TrimSuffix s ⟨#[10]⟩ W (by omega)
    obtain ⟨T, hT⟩ : ∃ T, T = ofL (Lib.trimSuffix s.data.toList [10]) := ⟨_, rfl⟩
    have HTR : Hid (∀ W : World, Calls Tryz.prog 16 #[.string s, .string ⟨#[10]⟩] W fun e w' => e = .returned (.string T) ∧ w' = W) := Lib.hid fun W => by rw [hT]; exact HTS W
    rw [← hT] at HT
    have hTl : T.size ≤ 1500 := by
      rw [hT]
      have h1 : (ofL (Lib.trimSuffix s.data.toList [10])).size = (Lib.trimSuffix s.data.toList [10]).length := by show Array.size _ = _; simp
      have h2 : s.data.toList.length = s.size := by simp
      rw [h1]
      unfold Lib.trimSuffix
      split
      · rw [List.length_take]; omega
      · omega
    have E := Lib.hid h
    clear h hT HTS
    refine (callsIn_wide (n := 6)).1 ?_
    refine callsIn_of_wp_marks Tryz.func6 rfl trivial ?_ rfl
    simp only [Tryz.ntmps6, List.size_toArray, List.length_cons, List.length_nil, Nat.reduceAdd, Nat.reduceSub, Array.replicate_succ, Array.replicate_zero, List.push_toArray, List.append_toArray, List.nil_append, List.cons_append]
    gi_wp2_with (first | (refine ⟨trivial, ?_⟩; gi_at_call 16; refine (callsIn_wide.2 (HTR.out _)).mono ?_; rintro e w' ⟨rfl, rfl⟩) | (refine ⟨trivial, ?_⟩; gi_at_call 15; refine (callsIn_wide.2 (splitSeq_any _ _ _)).mono ?_; rintro e w' ⟨rfl, rfl⟩))
    have HV : Hid (readV s = ticksGo [] (linesV s)) := Lib.hid (by unfold readV; rw [if_neg he])
    obtain ⟨W0, hW0⟩ : ∃ X, X = (((((w.alloc (.cells #[.slice none 0 0] 22)).alloc (.cells #[.nilIface] 30)).alloc (.cells #[.slice none 0 0] 22)).alloc (.cells #[.string T] 9)).alloc (.cells #[.string ⟨#[10]⟩] 9)).alloc (.cells #[.int .i64 0] 3) := ⟨_, rfl⟩
    rw [← hW0]
    obtain ⟨q2, q3, q4, qs, qp, qe, qz, qb⟩ := six_blocks w _ _ _ _ _ _ hW0
    obtain ⟨m, hm⟩ := E.out.maxl
    have h7 : 7 < w.heap.size := World.block_lt_of_cell? w _ hm
    have hm0 := cell_up qb hm
    obtain ⟨o7, ho7, _⟩ := cells_of_cell hm0
    obtain ⟨ge, hge⟩ : ∃ g, g = w.heap.size + 1 + 1 + 1 + 1 + 1 := ⟨_, rfl⟩
    obtain ⟨gp, hgp⟩ : ∃ g, g = w.heap.size + 1 + 1 + 1 + 1 := ⟨_, rfl⟩
    obtain ⟨gs, hgs⟩ : ∃ g, g = w.heap.size + 1 + 1 + 1 := ⟨_, rfl⟩
    obtain ⟨g4, hg4⟩ : ∃ g, g = w.heap.size + 1 + 1 := ⟨_, rfl⟩
    obtain ⟨g3, hg3⟩ : ∃ g, g = w.heap.size + 1 := ⟨_, rfl⟩
    rw [← hge] at qe ⊢
    rw [← hgp] at qp ⊢
    rw [← hgs] at qs ⊢
    rw [← hg4] at q4 ⊢
    rw [← hg3] at q3 ⊢
    have L0 : Hid (LSt w w.heap.size g3 g4 gs gp ge W0 (.slice none 0 0) []) := Lib.hid ⟨⟨qb, World.ownsRow_nil _ _ _ _, fun q hq => by cases hq⟩, q2, q3, q4, ⟨_, qs⟩, ⟨_, qp⟩, ⟨_, qe⟩⟩
    have IS : Hid (ISt gs gp ge T m W0) := Lib.hid ⟨qs, qp, qe, ⟨o7, ho7, hm0⟩⟩
    have n2' : w.heap.size < g3 := by omega
    have n3 : g3 < g4 := by omega
    have n4 : g4 < gs := by omega
    have n5 : gs < gp := by omega
    have n6 : gp < ge := by omega
    have n7 : ge < W0.heap.size := by omega
    have hV := HV.out
    have m1 : w.heap.size ≠ g3 := by omega
    have m2 : g3 ≠ w.heap.size := by omega
    have m3 : w.heap.size ≠ g4 := by omega
    have m4 : g4 ≠ w.heap.size := by omega
    have m5 : g3 ≠ g4 := by omega
    have m6 : g4 ≠ g3 := by omega
    clear hge hgp hgs hg4 hg3 q2 q3 q4 qs qp qe qz qb hW0 hm0 ho7 hm HV
    obtain ⟨i0, hi, hz0, hz1, hz2⟩ := info_parts infoI
    obtain ⟨i1, hi1, hy0, hy1, hy2⟩ := info_parts infoRow
    refine rangeS (F := Fence.wide) (n := 6) rfl (by omega) (gf := 36) (lb := #[.pointer (some ⟨gp, 0, none⟩), .pointer (some ⟨gs, 0, none⟩), .pointer (some ⟨ge, 0, none⟩)]) rfl trivial (enters_of Tryz.func36 (by kernel_rfl) rfl)
      (encs := fun x : ByteArray => #[Value.string x]) (Kp := Kp4 gs gp ge) (piecesV 10 T) gs (by omega) (split_iter _ (by omega) gs gp ge T hTl m W0 IS.out (by omega) (by omega) (by omega)) (fun h k => Kp4.trans h k) (Kp4.put (by omega) (by omega) (by omega) (by omega)) (fun _ => rfl)
      (fun pre W => ∃ v rs, LSt w w.heap.size g3 g4 gs gp ge W v rs ∧ rs.length = pre.length ∧ pre.length ≤ 60 ∧ ticksGo (rs.map RD.xs) ((linesV s).drop pre.length) = readV s)
      (fun c pre W => c = .ret ∧ ∃ ev, W.heap[w.heap.size]? = some (.cells #[.slice none 0 0] 22 (0, 0)) ∧ W.heap[g3]? = some (.cells #[ev] 30 (0, 0)) ∧ (readV s).1 = [] ∧ ErrAt W ev (readV s).2.1 (readV s).2.2 ∧ Below w.heap.size w W)
      (fun pre W W' row ⟨v, rs, L, a, b, c⟩ hg hr => ⟨v, rs, L.turn hg (fun r e => ⟨by have := (hr r e).1; omega, (hr r e).2⟩), a, b, c⟩)
      (fun c pre W W' row ⟨e, ev, h2, h3, h4, h5, h6⟩ hg hr => ⟨e, ev, keep_cells h2 hg (fun r e => (hr r e).2), keep_cells h3 hg (fun r e => (hr r e).2), h4, keep_err h5 hg (fun r e => (hr r e).2), below_own h6 hg (fun r e => by have := (hr r e).1; omega)⟩)
      (fun pre W u ⟨v, rs, L, r⟩ => ⟨v, rs, L.setS (by omega) (by omega) u, r⟩)
      ⟨_, [], L0.out, rfl, by simp, by rw [hV]; simp⟩
      (fun x => { tmps := #[.string s, undef, .pointer (some ⟨w.heap.size, 0, none⟩), .pointer (some ⟨g3, 0, none⟩), .pointer (some ⟨g4, 0, none⟩), .string x, undef, undef, undef, undef, undef, .string s, .bool false, .string s, .string T, .func (.func 36) #[] #[.pointer (some ⟨gp, 0, none⟩), .pointer (some ⟨gs, 0, none⟩), .pointer (some ⟨ge, 0, none⟩)], .string x, undef, undef, undef, undef, undef, undef, undef, undef, undef, undef, undef, undef, undef, undef, undef, undef, undef, undef, undef, undef, undef, undef, undef, undef, undef, undef, undef, undef, undef, undef, undef, undef, undef, undef, undef, undef, undef, undef, undef], defers := [] }) ?assign ?body ?done ?stop
    case assign =>
      intro l x W K hK
      gi_wp2
      exact hK
    case body =>
      rintro l pre x W ⟨v, rs, L, hl, h60, F⟩ hpre
      have hx : (linesV s)[pre.length]? = some x := by
        rw [HT.out] at hpre
        obtain ⟨t, ht⟩ := hpre
        rw [← ht]
        simp
      have hxs : x.size ≤ 1500 := Nat.le_trans (line_size (List.mem_of_getElem? hx)) hs
      obtain ⟨k, hk⟩ : ∃ k, k = pre.length := ⟨_, rfl⟩
      have hk1 : (pre ++ [x]).length = k + 1 := by rw [hk]; simp
      rw [← hk] at hl h60 F hx
      have hdr : (linesV s).drop k = x :: (linesV s).drop (k + 1) := by
        obtain ⟨hl', e⟩ := List.getElem?_eq_some_iff.1 hx
        rw [List.drop_eq_getElem_cons hl', e]
      have F2 : Hid ((match rowGo [] (wordsV x) with | none => ([], 3, (k : Int)) | some row => if 60 ≤ k then ([], 4, -1) else ticksGo (rs.map RD.xs ++ [row]) ((linesV s).drop (k + 1))) = readV s) := Lib.hid (by have h := F; rw [hdr, ticksGo, List.length_map, hl] at h; exact h)
      obtain ⟨VA, vc, rfl⟩ := own_slice' L.o.own
      have LL := Lib.hid L
      have EW := Lib.hid (E.out.up L.o.below)
      have HFD := Lib.hid (fields_any x hxs W)
      have KP := Lib.hid hk1
      clear L F hdr hx hpre hk hk1
      subst hl
      gi_wp2_with (refine ⟨trivial, ?_⟩; gi_at_call 17; refine (CallsIn.inRound l (callsIn_wide.2 HFD.out)).mono ?_; rintro e w2 ⟨A2, n2, c2, rfl, hn2, hst2, hb2⟩)
      have H2 := Lib.hid hst2
      have L2 := Lib.hid (LL.out.grow hb2)
      have E2 := Lib.hid (EW.out.up hb2)
      have KO2 := Lib.hid (ko_below hb2)
      have KP2 := Lib.hid (LL.out.kp h7 hb2)
      clear hst2 hb2 HFD LL EW
      gi_loopw [6, 20] (fun rv i wr => ∃ (j : Nat) (ys : List Int), j ≤ n2 ∧ ys.length = j ∧ i = .int .i64 j ∧ Hid (wr.ownsRow w2.heap.size 2 1 rv j (ys.map (Value.int .i64))) ∧ Hid (Below w2.heap.size w2 wr) ∧ Hid (rowGo ys ((wordsV x).drop j) = rowGo [] (wordsV x))) (fun _ i _ => n2 - (intOf i).toNat)
      case atStart => exact ⟨0, [], Nat.zero_le _, rfl, rfl, Lib.hid (World.ownsRow_nil _ _ _ _), Lib.hid (Below.refl _ _), Lib.hid (by rw [List.drop_zero])⟩
      case round =>
        obtain ⟨j, ys, hj, hys, rfl, RR, BB, FF⟩ := hrel
        by_cases hlt2 : j < n2
        · obtain ⟨b', o', rfl, hc⟩ := (H2.out.up BB.out).2 (by omega)
          obtain ⟨y, hy, hcy⟩ := hc j hlt2
          have hys2 : y.size ≤ 1500 := Nat.le_trans (word_size (List.mem_of_getElem? hy)) hxs
          have hdr : (wordsV x).drop j = y :: (wordsV x).drop (j + 1) := by
            obtain ⟨hl', e⟩ := List.getElem?_eq_some_iff.1 hy
            rw [List.drop_eq_getElem_cons hl', e]
          have FF2 : Hid ((match numV y with | none => none | some v => rowGo (ys ++ [v]) ((wordsV x).drop (j + 1))) = rowGo [] (wordsV x)) := Lib.hid (by have h := FF.out; rw [hdr, rowGo] at h; exact h)
          have E3 := Lib.hid (E2.out.up BB.out)
          have HP := Lib.hid (parse_any y (by omega) wr E3.out)
          have j0' : (0 : Int) ≤ (j : Int) := by omega
          have j1' : (j : Int) < (n2 : Int) := by omega
          have FE : Hid (numV y = none → readV s = ([], 3, (rs.length : Int))) := Lib.hid (fun hn => by
            have h := FF2.out
            rw [hn] at h
            have h2 := F2.out
            rw [← h] at h2
            exact h2.symm)
          clear hc hdr hy FF
          gi_wp2_with (refine ⟨trivial, ?_⟩; gi_at_call 19; refine (CallsIn.inRound l (callsIn_wide.2 HP.out)).mono ?_; rintro e w4 ⟨v', ev, rfl, hb4, hv⟩)
          rcases hv with ⟨hp, rfl, hok⟩ | ⟨hn, t, p, rfl⟩
          · rw [nilG .neq 29 w4 (.inr rfl)]
            simp only [Result.andThen]
            rw [nilN]
            (try simp only [])
            rw [Oper.uponIn_value]
            have E4 := Lib.hid (E3.out.up hb4)
            have HF := Lib.hid (format_any v' hok w4 E4.out)
            have hnum : numV y = if fmtV v' = y then some v' else none := by unfold numV; rw [hp]
            by_cases hfy : fmtV v' = y
            · have FF3 : Hid (rowGo (ys ++ [v']) ((wordsV x).drop (j + 1)) = rowGo [] (wordsV x)) := Lib.hid (by have h := FF2.out; rw [hnum, if_pos hfy] at h; exact h)
              have hcmp : ((fmtV v').toList == y.toList) = true := by rw [beq_bytes]; simpa using hfy
              clear hnum hfy hp FE FF2
              gi_wp2_with (first | (refine ⟨trivial, ?_⟩; gi_at_call 20; refine (CallsIn.inRound l (callsIn_wide.2 HF.out)).mono ?_; rintro e w5 ⟨rfl, hb5⟩; have R5 := Lib.hid (row_grow2 (row_grow2 RR.out hb4) hb5); have B5 := Lib.hid (below_up (below_up BB.out hb4) hb5)) | (gi_at_builtin; refine wpListIn_append_own _ rfl _ _ 36 rfl w2.heap.size 2 i0 (.int .i64 0) 1 8 Tryz.underlying36 hi hz0 hz1 hz2 rfl (by decide) _ _ _ rfl (R5.out.alloc _) ⟨w5.heap.size, 0, none⟩ 1 1 [Value.int .i64 v'] rfl rfl (cell_one_new _ _ _) (by simp [Value.oneCell']) (by unfold maxLen; omega) (by omega) (by have := B5.out.size; simp; omega) ?_; intro v2 w6 hown hgrow _; obtain ⟨A', c', rfl⟩ := own_slice' hown))
              have B6 := Lib.hid (below_own (B5.out.alloc B5.out.size _) hgrow (fun x e => (own_lt' R5.out x e).1))
              have R6 : Hid (w6.ownsRow w2.heap.size 2 1 (.slice A' (j + 1) c') (j + 1) ((ys ++ [v']).map (Value.int .i64))) := Lib.hid (by rw [List.map_append]; exact hown)
              go_roundw
              case rel => exact ⟨j + 1, ys ++ [v'], by omega, by simp [hys], by go_num, R6, B6, FF3⟩
              case measure => simp [intOf]; omega
            · have FX : Hid (readV s = ([], 3, (rs.length : Int))) := Lib.hid (FE.out (by rw [hnum, if_neg hfy]))
              have hcmp : ((fmtV v').toList == y.toList) = false := by rw [beq_bytes]; simpa using hfy
              clear hnum hfy hp FE FF2
              have LP := Lib.hid ((L2.out.grow BB.out).grow hb4)
              gi_wp2_with (refine ⟨trivial, ?_⟩; gi_at_call 20; refine (CallsIn.inRound l (callsIn_wide.2 HF.out)).mono ?_; rintro e w5 ⟨rfl, hb5⟩; have L4 := Lib.hid (LP.out.grow hb5); have c4 : w5.cell? ⟨g4, 0, none⟩ = some (.slice VA rs.length vc) := (by simp [World.cell?, L4.out.r4]); have c2 : w5.cell? ⟨w.heap.size, 0, none⟩ = some (.slice none 0 0) := (by simp [World.cell?, L4.out.r2]); have c3 : w5.cell? ⟨g3, 0, none⟩ = some .nilIface := (by simp [World.cell?, L4.out.r3]); have f2 := blk_free L4.out.r2; have f3 := blk_free L4.out.r3; have l2 := lt_of_block L4.out.r2; have l3 := lt_of_block L4.out.r3; have l4 := lt_of_block L4.out.r4)
              gi_region
              all_goals gi_wp2
              all_goals
                have KX := Lib.hid (((KO2.out.trans (ko_below BB.out)).trans (ko_below hb4)).trans (ko_below hb5))
                obtain ⟨y1, y2, y3, y4, y5⟩ := L4.out.bad KX.out (Nat.le_refl _) n2' (rs.length : Int)
                exact ⟨y1, rfl, _, y2, y3, by rw [FX.out], by rw [FX.out]; exact y4, y5⟩
          · rw [errG .neq 29 t p w4 (.inr rfl)]
            simp only [Result.andThen]
            rw [errN]
            (try simp only [])
            rw [Oper.uponIn_value]
            have FX : Hid (readV s = ([], 3, (rs.length : Int))) := Lib.hid (FE.out hn)
            have L4 := Lib.hid ((L2.out.grow BB.out).grow hb4)
            have K4 := Lib.hid ((KO2.out.trans (ko_below BB.out)).trans (ko_below hb4))
            have c4 : w4.cell? ⟨g4, 0, none⟩ = some (.slice VA rs.length vc) := by simp [World.cell?, L4.out.r4]
            have c2 : w4.cell? ⟨w.heap.size, 0, none⟩ = some (.slice none 0 0) := by simp [World.cell?, L4.out.r2]
            have c3 : w4.cell? ⟨g3, 0, none⟩ = some .nilIface := by simp [World.cell?, L4.out.r3]
            have f2 := blk_free L4.out.r2
            have f3 := blk_free L4.out.r3
            have l2 := lt_of_block L4.out.r2
            have l3 := lt_of_block L4.out.r3
            have l4 := lt_of_block L4.out.r4
            clear hn FE FF2 hb4
            gi_wp2
            refine ⟨trivial, ?_⟩
            gi_wp2
            gi_region
            all_goals gi_wp2
            all_goals
              obtain ⟨y1, y2, y3, y4, y5⟩ := L4.out.bad K4.out (Nat.le_refl _) n2' (rs.length : Int)
              exact ⟨y1, rfl, _, y2, y3, by rw [FX.out], by rw [FX.out]; exact y4, y5⟩
        · have FR : Hid (rowGo [] (wordsV x) = some ys) := Lib.hid (by have h := FF.out; rw [List.drop_of_length_le (by rw [H2.out.1]; omega), rowGo] at h; exact h.symm)
          have L5 := Lib.hid (L2.out.grow BB.out)
          have K5 := Lib.hid (KO2.out.trans (ko_below BB.out))
          have P5 := Lib.hid (KP2.out.trans (L2.out.kp h7 BB.out))
          obtain ⟨RA, rc, rfl⟩ := own_slice' RR.out
          have RQ := Lib.hid (own_base RR.out L2.out.o.below.size)
          have c4 : wr.cell? ⟨g4, 0, none⟩ = some (.slice VA rs.length vc) := by simp [World.cell?, L5.out.r4]
          have f4 := blk_free L5.out.r4
          have l4 := lt_of_block L5.out.r4
          clear FF
          by_cases h60' : rs.length < 60
          · have hd : decide ((60 : Int) < (rs.length : Int) + 1) = false := by simp; omega
            have FX : Hid (ticksGo ((rs ++ [RD.mk RA j rc ys]).map RD.xs) ((linesV s).drop (rs.length + 1)) = readV s) := Lib.hid (by
              have h := F2.out
              rw [FR.out] at h
              simp only [] at h
              rw [if_neg (by omega)] at h
              rw [List.map_append]
              exact h)
            clear F2
            gi_wp2_with (gi_at_builtin; refine wpListIn_append_own _ rfl _ _ 22 rfl w.heap.size 36 i1 (.slice none 0 0) 1 24 Tryz.underlying22 hi1 hy0 hy1 hy2 rfl (by decide) _ _ _ rfl (L5.out.o.own.alloc _) ⟨wr.heap.size, 0, none⟩ 1 1 [Value.slice RA j rc] rfl rfl (cell_one_new _ _ _) (by simp [Value.oneCell']) (by unfold maxLen; omega) (by omega) (by have := L5.out.o.below.size; simp; omega) ?_; intro v2 w6 hown hgrow _; obtain ⟨A', c', rfl⟩ := own_slice' hown; have LB := Lib.hid (L5.out.grow ((Below.refl _ _).alloc (Nat.le_refl _) (.cells #[.slice RA j rc] 36))); have r4 := LB.out.r4after hgrow; have d4 : w6.cell? ⟨g4, 0, none⟩ = some (.slice VA rs.length vc) := (by simp [World.cell?, r4]); have f4' := blk_free r4)
            have L6 := LB.out.more (RD.mk RA j rc ys) (RQ.out.alloc _) hgrow hown (by omega) m3
            have KX := ((K5.out.trans (KeepsOthers.alloc _ _)).trans (ko_own LB.out.o.own hgrow)).trans (KeepsOthers.setCell w6 ⟨g4, 0, none⟩ (.slice A' (rs.length + 1) c'))
            have PX := (P5.out.trans (L5.out.kp h7 ((Below.refl _ _).alloc (Nat.le_refl _) _))).trans (LB.out.moreKp (v' := .slice A' (rs.length + 1) c') h7 hgrow (by omega))
            exact ⟨KX, PX, _, _, L6, by rw [KP.out]; simp, by rw [KP.out]; omega, by rw [KP.out]; exact FX.out⟩
          · have hd : decide ((60 : Int) < (rs.length : Int) + 1) = true := by simp; omega
            have FX : Hid (readV s = ([], 4, -1)) := Lib.hid (by have h := F2.out; rw [FR.out] at h; simp only [] at h; rw [if_pos (by omega)] at h; exact h.symm)
            clear F2
            gi_wp2_with (gi_at_builtin; refine wpListIn_append_own _ rfl _ _ 22 rfl w.heap.size 36 i1 (.slice none 0 0) 1 24 Tryz.underlying22 hi1 hy0 hy1 hy2 rfl (by decide) _ _ _ rfl (L5.out.o.own.alloc _) ⟨wr.heap.size, 0, none⟩ 1 1 [Value.slice RA j rc] rfl rfl (cell_one_new _ _ _) (by simp [Value.oneCell']) (by unfold maxLen; omega) (by omega) (by have := L5.out.o.below.size; simp; omega) ?_; intro v2 w6 hown hgrow _; obtain ⟨A', c', rfl⟩ := own_slice' hown; have LB := Lib.hid (L5.out.grow ((Below.refl _ _).alloc (Nat.le_refl _) (.cells #[.slice RA j rc] 36))); have r4 := LB.out.r4after hgrow; have d4 : w6.cell? ⟨g4, 0, none⟩ = some (.slice VA rs.length vc) := (by simp [World.cell?, r4]); have f4' := blk_free r4; have L6 := Lib.hid (LB.out.more (RD.mk RA j rc ys) (RQ.out.alloc _) hgrow hown (by omega) m3); have e2 : (w6.setCell ⟨g4, 0, none⟩ (.slice A' (rs.length + 1) c')).cell? ⟨w.heap.size, 0, none⟩ = some (.slice none 0 0) := (by rw [World.cell?, L6.out.r2]; rfl); have e3 : (w6.setCell ⟨g4, 0, none⟩ (.slice A' (rs.length + 1) c')).cell? ⟨g3, 0, none⟩ = some .nilIface := (by rw [World.cell?, L6.out.r3]; rfl); have h2f := blk_free L6.out.r2; have h3f := blk_free L6.out.r3)
            have KX := ((K5.out.trans (KeepsOthers.alloc _ _)).trans (ko_own LB.out.o.own hgrow)).trans (KeepsOthers.setCell w6 ⟨g4, 0, none⟩ (.slice A' (rs.length + 1) c'))
            obtain ⟨y1, y2, y3, y4, y5⟩ := L6.out.lim KX (Nat.le_refl _) n2'
            exact ⟨y1, rfl, _, y2, y3, by rw [FX.out], by rw [FX.out]; exact y4, y5⟩
    case done =>
      rintro D W hD ⟨v, rs, L, hl, h60, F⟩ hK
      obtain ⟨VA, vc, rfl⟩ := own_slice' L.o.own
      have FX : Hid (readV s = (rs.map RD.xs, 0, -1)) := Lib.hid (by
        have h := F
        rw [← HT.out, List.drop_of_length_le (Nat.le_refl _), ticksGo] at h
        exact h.symm)
      have LL := Lib.hid L
      have c4 : W.cell? ⟨g4, 0, none⟩ = some (.slice VA rs.length vc) := by simp [World.cell?, L.r4]
      have c2 : W.cell? ⟨w.heap.size, 0, none⟩ = some (.slice none 0 0) := by simp [World.cell?, L.r2]
      have c3 : W.cell? ⟨g3, 0, none⟩ = some .nilIface := by simp [World.cell?, L.r3]
      have f2 := blk_free L.r2
      have f3 := blk_free L.r3
      have O1 := Lib.hid ((L.o.set L.r2 (by decide) (by decide) (Nat.le_refl _) 0 (.slice VA rs.length vc)).set (g := g3) ((Below.heap_setCell _ ⟨w.heap.size, 0, none⟩ _ g3 m2).trans L.r3) (by decide) (by decide) (by omega) 0 .nilIface)
      have hK' : ((W.setCell ⟨w.heap.size, 0, none⟩ (.slice VA rs.length vc)).setCell ⟨g3, 0, none⟩ .nilIface).heap[D]? = some (.deferred (some [])) := (Below.heap_setCell _ ⟨g3, 0, none⟩ _ D (by show D ≠ g3; omega)).trans ((Below.heap_setCell _ ⟨w.heap.size, 0, none⟩ _ D (by show D ≠ w.heap.size; omega)).trans hK)
      have z2 : ((W.setCell ⟨w.heap.size, 0, none⟩ (.slice VA rs.length vc)).setCell ⟨g3, 0, none⟩ .nilIface).heap[w.heap.size]? = some (.cells #[.slice VA rs.length vc] 22 (0, 0)) := (Below.heap_setCell _ ⟨g3, 0, none⟩ _ _ m1).trans (set_block L.r2)
      have z3 : ((W.setCell ⟨w.heap.size, 0, none⟩ (.slice VA rs.length vc)).setCell ⟨g3, 0, none⟩ .nilIface).heap[g3]? = some (.cells #[.nilIface] 30 (0, 0)) := set_block ((Below.heap_setCell _ ⟨w.heap.size, 0, none⟩ _ g3 m2).trans L.r3)
      have Z2 := Lib.hid z2
      have Z3 := Lib.hid z3
      have h60r : rs.length ≤ 60 := by omega
      clear F L z2 z3 hl h60
      have HK := Lib.hid hK'
      clear hK'
      gi_wp2
      obtain ⟨X, hX⟩ : ∃ X, X = (W.setCell ⟨w.heap.size, 0, none⟩ (.slice VA rs.length vc)).setCell ⟨g3, 0, none⟩ .nilIface := ⟨_, rfl⟩
      rw [← hX] at HK Z2 Z3 O1 ⊢
      clear hX c4 c2 c3 f2 f3
      have hrw : ∀ r, some D = some r → ∃ o : Obj, X.heap[r]? = some o ∧ o.isCells = false := fun r e => by cases e; exact ⟨_, HK.out, rfl⟩
      have u2 := keep_cells Z2.out (grownBy_putObj' X D (.deferred none)) hrw
      have u3 := keep_cells Z3.out (grownBy_putObj' X D (.deferred none)) hrw
      have v2 : (X.putObj D (.deferred none)).cell? ⟨w.heap.size, 0, none⟩ = some (.slice VA rs.length vc) := by simp [World.cell?, u2]
      have v3 : (X.putObj D (.deferred none)).cell? ⟨g3, 0, none⟩ = some .nilIface := by simp [World.cell?, u3]
      have OF := O1.out.turn (grownBy_putObj' X D (.deferred none)) (fun r e => ⟨by cases e; omega, hrw r e⟩)
      refine ⟨by simp, .inl ⟨_, _, rfl, run_takeDeferred HK.out, ?_⟩⟩
      refine ⟨.tuple #[.slice VA rs.length vc, .nilIface], ?_, VA, rs.length, vc, .nilIface, rfl, by omega, by rw [FX.out]; exact OF.ticks.2, by rw [FX.out]; exact .inl ⟨rfl, rfl, rfl⟩, OF.below⟩
      simp [results, Tryz.results6, go_sem, v2, v3]
    case stop =>
      rintro D c pre W hD hpre ⟨rfl, ev, a2, a3, e1, er, bl⟩ hK
      gi_wp2
      have hrw : ∀ r, some D = some r → ∃ o : Obj, W.heap[r]? = some o ∧ o.isCells = false := fun r e => by cases e; exact ⟨_, hK, rfl⟩
      have u2 := keep_cells a2 (grownBy_putObj' W D (.deferred none)) hrw
      have u3 := keep_cells a3 (grownBy_putObj' W D (.deferred none)) hrw
      have v2 : (W.putObj D (.deferred none)).cell? ⟨w.heap.size, 0, none⟩ = some (.slice none 0 0) := by simp [World.cell?, u2]
      have v3 : (W.putObj D (.deferred none)).cell? ⟨g3, 0, none⟩ = some ev := by simp [World.cell?, u3]
      refine ⟨by simp, .inl ⟨_, _, rfl, run_takeDeferred hK, ?_⟩⟩
      refine ⟨.tuple #[.slice none 0 0, ev], ?_, none, 0, 0, ev, rfl, by omega, by rw [e1]; exact TicksAt.nil _, keep_err er (grownBy_putObj' W D (.deferred none)) hrw, below_own bl (grownBy_putObj' W D (.deferred none)) (fun r e => by cases e; omega)⟩
      simp [results, Tryz.results6, go_sem, v2, v3]
end Go.Proofs.YtgglbjniclkkpaaGreatDoor

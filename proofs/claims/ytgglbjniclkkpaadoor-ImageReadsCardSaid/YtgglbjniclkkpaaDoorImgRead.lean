/-
  image.Read: code read from bytes.
-/
import Derived.Test.YtgglbjniclkkpaaDoorReadState
import Derived.Test.YtgglbjniclkkpaaDoorAsksRow
import Derived.Test.YtgglbjniclkkpaaDoorOne
import Derived.Deep.Cut
import Derived.Deep.CutRange
import Derived.Deep.CutBlock
import Derived.Deep.RegionWith
import Derived.Outline
namespace Go.Proofs.YtgglbjniclkkpaaDoor
open Go.RowKit
set_option linter.unusedVariables false

theorem head_is {s : ByteArray} : headB s.data.toList = true ↔ 4 ≤ s.size ∧ s.extract 0 4 = ⟨#[67, 76, 80, 49]⟩ := by
  have hsz : s.data.toList.length = s.size := by rw [Array.length_toList]; rfl
  unfold headB
  rw [beq_iff_eq]
  constructor
  · intro h
    have h2 := congrArg List.length h
    rw [List.length_take, hsz] at h2
    have h4 : min 4 s.size = 4 := h2
    exact ⟨by omega, ((put_is (s := s) (l := [67, 76, 80, 49]) (k := 4)).2 h.symm).symm⟩
  · rintro ⟨_, h⟩
    exact ((put_is (s := s) (l := [67, 76, 80, 49]) (k := 4)).1 h.symm).symm
theorem drop_is {s : ByteArray} : (s.extract 4 s.size).data.toList = s.data.toList.drop 4 := by
  have hsz : s.data.toList.length = s.size := by rw [Array.length_toList]; rfl
  rw [Lib.extract_data]
  show List.take (s.size - 4) (List.drop 4 s.data.toList) = _
  exact List.take_of_length_le (by rw [List.length_drop, hsz]; exact Nat.le_refl _)
theorem own_head {w : World} {B : Nat} {A : Option Addr} {l c n : Nat} {e : TypeId} {sz : Nat} {xs : List Value} (h : w.ownsRow B e sz (.slice A l c) n xs) : (A = none ∧ l = 0 ∧ c = 0) ∨ ∃ g, A = some ⟨g, 0, none⟩ := by
  rcases h.2 with ⟨hv, hn⟩ | ⟨g, cap, cur, hv, _⟩
  · cases hv; exact .inl ⟨rfl, rfl, rfl⟩
  · cases hv; exact .inr ⟨_, rfl⟩
theorem clip_any (A : Option Addr) (n c : Nat) (w : World) (h : (A = none ∧ n = 0 ∧ c = 0) ∨ ∃ g, A = some ⟨g, 0, none⟩) (hc : n ≤ c) :
    Calls Tryd.prog 61 #[.slice A n c] w fun r w' => r = .returned (.slice A n n) ∧ w' = w := by
  rcases h with ⟨rfl, rfl, rfl⟩ | ⟨g, rfl⟩
  · go_enter Tryd.func61, Tryd.ntmps61
    go_wp2
    go_ret
    exact ⟨rfl, rfl⟩
  · go_enter Tryd.func61, Tryd.ntmps61
    go_wp2
    go_ret
    exact ⟨rfl, rfl⟩
theorem infoStp : (Tryd.prog.info? 31).map (fun i => (i.zero, i.size, i.bytes)) = some (some (.agg #[.int .i64 0, .int .i64 0, .int .i64 0, .int .i64 0, .int .i64 0]), 5, 40) := by kernel_rfl
set_option maxHeartbeats 8000000 in
set_option maxRecDepth 100000 in
theorem imgRead_any (s : ByteArray) (hs : s.size ≤ 1500) (w : World) (hgl : HandleAt w) (hh : headB s.data.toList = true) : Calls Tryd.prog 19 #[.string s] w (ReadOut w (ansV (readV s.data.toList))) := by
  obtain ⟨i0, hi0, hz0, hz1, hz2⟩ := info_parts infoStp
  obtain ⟨h4, hx⟩ := head_is.1 hh
  have hlen : (s.extract 4 s.size).size ≤ 1500 := by simp; omega
  have HGL := Lib.hid hgl
  clear hgl
  obtain ⟨t0, ht0⟩ : ∃ t, t = s.extract 4 s.size := ⟨_, rfl⟩
  rw [← ht0] at hlen
  have T0 := Lib.hid ht0
  go_enter Tryd.func19, Tryd.ntmps19
  go_wp2_with fail
  rw [← T0.out]
  refine (small_any (w.heap.size + 1) t0 false hlen _ (by unfold RdAt; exact heap_alloc2_new w _ _)).mono ?_
  rintro r w1 ⟨P, t1, b1, rfl, hP, hr1, ht1, hg1, hf1, htr1⟩
  have S1 := Lib.hid (RdS.of_parts (w := w) (by decide) (below_grow (((Below.refl w.heap.size w).alloc (Nat.le_refl _) _).alloc (by simp) _) hg1 (Nat.le_succ _)) (Nat.le_add_right _ 1) hr1 (grown_blk hg1 (heap_alloc2_old w _ _) (by simp)) (Nat.lt_add_one _) (.inl rfl) #[.int .i64 P, .slice none 0 0, .slice none 0 0, .slice none 0 0, .slice none 0 0, .slice none 0 0, .slice none 0 0])
  have F1 : Hid (Sofar b1 (imageR t0.data.toList) (k1 P t1.data.toList)) := Lib.hid (sofarSmall (sofar_start _) hf1 htr1)
  obtain ⟨a, ha⟩ : ∃ a, a = w.heap.size + 1 := ⟨_, rfl⟩
  obtain ⟨z, hz⟩ : ∃ z, z = w.heap.size := ⟨_, rfl⟩
  rw [← ha] at S1
  have A := Lib.hid ha
  clear hg1 hr1 hf1 htr1
  go_upto_region 5 with fail
  rw [← A.out]
  clear ha
  obtain ⟨W2, hW2⟩ : ∃ W, W = w1.alloc (.cells #[.int .i64 P, .slice none 0 0, .slice none 0 0, .slice none 0 0, .slice none 0 0, .slice none 0 0, .slice none 0 0] 26) := ⟨_, rfl⟩
  obtain ⟨g, hg⟩ : ∃ g, g = w1.heap.size := ⟨_, rfl⟩
  rw [← hW2, ← hg] at S1 ⊢
  clear hW2 hg
  go_wp2_with fail
  refine (list_read a t1 b1 (by omega) _ S1.out.rd).mono ?_
  rintro r w2 ⟨B1, n1, c1, x1, t2, b2, rfl, ho2, hn1, hok2, hr2, ht2, hg2, hf2, htr2⟩
  have S2 := Lib.hid ((S1.out.read hr2 hg2).row ho2 S1.out.below.size (.inl rfl))
  have F2 := Lib.hid (sofar1 F1.out hf2 htr2)
  have O2 := Lib.hid hok2
  clear hr2 hg2 ho2 hf2 htr2 S1 F1 hok2
  go_wp2_with fail
  refine (narrow_read a t2 b2 (by omega) _ S2.out.rd).mono ?_
  rintro r w3 ⟨B2, n2, c2, x2, t3, b3, rfl, ho3, hn2, hok3, hr3, ht3, hg3, hf3, htr3⟩
  have S3 := Lib.hid ((S2.out.read hr3 hg3).row ho3 S2.out.below.size (.inr rfl))
  have F3 := Lib.hid (sofar2 F2.out hf3 htr3)
  clear hr3 hg3 ho3 hf3 htr3 S2 F2 hok3
  go_wp2_with fail
  refine (narrow_read a t3 b3 (by omega) _ S3.out.rd).mono ?_
  rintro r w4 ⟨B3, n3, c3, x3, t4, b4, rfl, ho4, hn3, hok4, hr4, ht4, hg4, hf4, htr4⟩
  have S4 := Lib.hid ((S3.out.read hr4 hg4).row ho4 S3.out.below.size (.inr rfl))
  have F4 := Lib.hid (sofar3 F3.out hf4 htr4)
  clear hr4 hg4 ho4 hf4 htr4 S3 F3 hok4
  go_wp2_with fail
  refine (narrow_read a t4 b4 (by omega) _ S4.out.rd).mono ?_
  rintro r w5 ⟨B4, n4, c4, x4, t5, b5, rfl, ho5, hn4, hok5, hr5, ht5, hg5, hf5, htr5⟩
  have S5 := Lib.hid ((S4.out.read hr5 hg5).row ho5 S4.out.below.size (.inr rfl))
  have F5 := Lib.hid (sofar4 F4.out hf5 htr5)
  clear hr5 hg5 ho5 hf5 htr5 S4 F4 hok5
  go_wp2_with fail
  refine (list_read a t5 b5 (by omega) _ S5.out.rd).mono ?_
  rintro r w6 ⟨B5, n5, c5, x5, t6, b6, rfl, ho6, hn5, hok6, hr6, ht6, hg6, hf6, htr6⟩
  have S6 := Lib.hid ((S5.out.read hr6 hg6).row ho6 S5.out.below.size (.inl rfl))
  have F6 := Lib.hid (sofar5 F5.out hf6 htr6)
  have O6 := Lib.hid hok6
  clear hr6 hg6 ho6 hf6 htr6 S5 F5 hok6
  obtain ⟨d0, d1, d2, d3, d4, d5, d6⟩ := net_cells S6.out.net
  have fz := blk_free S6.out.net
  go_upto_region 6 with fail
  obtain ⟨W7, hW7⟩ : ∃ W, W = ((((w6.setCell ⟨g, 1, none⟩ (.slice B1 n1 c1)).setCell ⟨g, 2, none⟩ (.slice B2 n2 c2)).setCell ⟨g, 3, none⟩ (.slice B3 n3 c3)).setCell ⟨g, 4, none⟩ (.slice B4 n4 c4)).setCell ⟨g, 5, none⟩ (.slice B5 n5 c5) := ⟨_, rfl⟩
  have S7 : Hid (RdS w W7 a 102 t6 b6 [(w.heap.size, #[.int .i64 0, .slice none 0 0, .slice none 0 0, .slice none 0 0, .slice none 0 0, .slice none 0 0, .slice none 0 0], 26)] g #[.int .i64 P, .slice B1 n1 c1, .slice B2 n2 c2, .slice B3 n3 c3, .slice B4 n4 c4, .slice B5 n5 c5, .slice none 0 0]
    [⟨2, .slice B1 n1 c1, n1, x1.map (Value.int .i64)⟩, ⟨3, .slice B2 n2 c2, n2, x2.map (Value.int .i64)⟩, ⟨3, .slice B3 n3 c3, n3, x3.map (Value.int .i64)⟩, ⟨3, .slice B4 n4 c4, n4, x4.map (Value.int .i64)⟩, ⟨2, .slice B5 n5 c5, n5, x5.map (Value.int .i64)⟩] (.slice none 0 0) 0 []) := by
    rw [hW7]
    exact Lib.hid (((((S6.out.set 1 _).set 2 _).set 3 _).set 4 _).set 5 _)
  rw [← hW7]
  obtain ⟨RB, hRB⟩ : ∃ RB : List (Nat × Array Value × TypeId), RB = [(w.heap.size, #[.int .i64 0, .slice none 0 0, .slice none 0 0, .slice none 0 0, .slice none 0 0, .slice none 0 0, .slice none 0 0], 26)] := ⟨_, rfl⟩
  obtain ⟨L, hL⟩ : ∃ L : List RowD, L = [⟨2, .slice B1 n1 c1, n1, x1.map (Value.int .i64)⟩, ⟨3, .slice B2 n2 c2, n2, x2.map (Value.int .i64)⟩, ⟨3, .slice B3 n3 c3, n3, x3.map (Value.int .i64)⟩, ⟨3, .slice B4 n4 c4, n4, x4.map (Value.int .i64)⟩, ⟨2, .slice B5 n5 c5, n5, x5.map (Value.int .i64)⟩] := ⟨_, rfl⟩
  rw [← hRB, ← hL] at S7
  have HRB := Lib.hid hRB
  have HL := Lib.hid hL
  clear hW7 d0 d1 d2 d3 d4 d5 d6 fz S6 hRB hL
  go_wp2_with fail
  refine (small_any a t6 b6 (by omega) _ S7.out.rd).mono ?_
  rintro r w8 ⟨K, t7, b7, rfl, hK, hr7, ht7, hg7, hf7, htr7⟩
  have S8 := Lib.hid (S7.out.read hr7 hg7)
  have F8 : Hid (Sofar b7 (imageR t0.data.toList) (restC (fun cs t => finR ⟨P, x1, x2, x3, x4, x5, cs⟩ t) K [] t7.data.toList)) := Lib.hid (sofarSmall F6.out hf7 htr7)
  clear hr7 hg7 hf7 htr7 S7 F6
  obtain ⟨FIN, hFIN⟩ : ∃ F : List Stp → List UInt8 → Option NetP, F = (fun cs t => finR ⟨P, x1, x2, x3, x4, x5, cs⟩ t) := ⟨_, rfl⟩
  obtain ⟨R, hR⟩ : ∃ R, R = imageR t0.data.toList := ⟨_, rfl⟩
  rw [← hFIN, ← hR] at F8
  have HFIN := Lib.hid hFIN
  have READ : Hid (readV s.data.toList = R) := Lib.hid (by unfold readV; rw [if_pos hh, ← drop_is, ← T0.out, hR])
  have HR := Lib.hid hR
  have hts : t7.size ≤ 1500 := by omega
  clear hFIN hR ht1 ht2 ht3 ht4 ht5 ht6 ht7 hlen
  go_wp2_with fail
  go_loopw [44] (fun i wr => ∃ (m : Nat) (t : ByteArray) (b : Bool) (cs : List Stp) (A6 : Option Addr) (c6 : Nat), m ≤ K ∧ i = .int .i64 m ∧ Hid (RdS w wr a 102 t b RB g #[.int .i64 P, .slice B1 n1 c1, .slice B2 n2 c2, .slice B3 n3 c3, .slice B4 n4 c4, .slice B5 n5 c5, .slice A6 m c6] L (.slice A6 m c6) m (cs.flatMap stpC)) ∧ t.size ≤ t7.size ∧ Hid (Sofar b R (restC FIN (K - m) cs t.data.toList))) (fun i _ => K - (intOf i).toNat)
  case atStart => exact ⟨0, t7, b7, [], none, 0, Nat.zero_le _, rfl, S8, Nat.le_refl _, F8⟩
  case round =>
    obtain ⟨m, t, b, cs, A6, c6, hm, rfl, S, hts2, F⟩ := hrel
    have e1 := S.out.rd.c1
    by_cases hlt : m < K
    · cases b
      · go_upto_region 9 with fail
        clear e1
        go_wp2_with fail
        refine (small_any a t false (by omega) _ S.out.rd).mono ?_
        rintro r w9 ⟨C, t9, b9, rfl, hC, hr9, ht9, hg9, hf9, htr9⟩
        have X9 := Lib.hid (XdS.start (S.out.read hr9 hg9) ⟨C, 0, 0, 0, 0⟩)
        have F9 : Hid (Sofar b9 R (hd1 (fun x => restC FIN (K - (m + 1)) (cs ++ [x.1]) x.2) C t9.data.toList)) := Lib.hid (sofarStep (F.out.to (by rw [show K - m = (K - (m + 1)) + 1 by omega])) hf9 htr9)
        obtain ⟨kk, hkk⟩ : ∃ kk : Stp × List UInt8 → Option NetP, kk = (fun x => restC FIN (K - (m + 1)) (cs ++ [x.1]) x.2) := ⟨_, rfl⟩
        rw [← hkk] at F9
        have KK := Lib.hid hkk
        clear hr9 hg9 hf9 htr9 S F hkk
        go_upto_region 10 with fail
        obtain ⟨gx, hgx⟩ : ∃ gx, gx = w9.heap.size := ⟨_, rfl⟩
        obtain ⟨Wx, hWx⟩ : ∃ W, W = w9.alloc (.cells #[.int .i64 C, .int .i64 0, .int .i64 0, .int .i64 0, .int .i64 0] 31) := ⟨_, rfl⟩
        rw [← hgx, ← hWx] at X9 ⊢
        clear hgx hWx
        go_wp2_with fail
        refine (small_any a t9 b9 (by omega) _ X9.out.st.rd).mono ?_
        rintro r w10 ⟨D, t10, b10, rfl, hD, hr10, ht10, hg10, hf10, htr10⟩
        have X10 := Lib.hid (X9.out.read hr10 hg10)
        have F10 := Lib.hid (sofarDst F9.out hf10 htr10)
        have fx := blk_free X10.out.x
        obtain ⟨e0, e1, e2, e3, e4⟩ := x_cells X10.out.x
        clear hr10 hg10 hf10 htr10 X9 F9
        go_upto_region 11 with fail
        have X11 := Lib.hid (X10.out.setD D)
        obtain ⟨W11, hW11⟩ : ∃ W, W = w10.setCell ⟨gx, 1, none⟩ (.int .i64 D) := ⟨_, rfl⟩
        rw [← hW11] at X11 ⊢
        clear hW11 fx e0 e1 e2 e3 e4 X10
        obtain ⟨e0, e1, e2, e3, e4⟩ := x_cells X11.out.x
        go_upto_if 60 with (go_at_call 11; refine (asks_any ⟨C, D, 0, 0, 0⟩ _).mono ?_; rintro r w12 ⟨AA, ca, rfl, hca, hia, hba⟩; have X12 := Lib.hid (X11.out.grow hba); obtain ⟨y0, y1, y2, y3, y4⟩ := x_cells X12.out.x; clear e0 e1 e2 e3 e4 hba hia X11)
        have har := arity_le (C : Int)
        obtain ⟨ar, har0⟩ : ∃ ar, ar = arityV (C : Int) := ⟨_, rfl⟩
        rw [← har0] at hca har ⊢
        have AR := Lib.hid har0
        clear har0
        go_cut [44] from 44 to 86 (fun i wx => i = .int .i64 m ∧ ∃ (s2 : Stp) (t13 : ByteArray) (b13 : Bool), Hid (XdS w wx a 102 t13 b13 RB g #[.int .i64 P, .slice B1 n1 c1, .slice B2 n2 c2, .slice B3 n3 c3, .slice B4 n4 c4, .slice B5 n5 c5, .slice A6 m c6] L (.slice A6 m c6) m (cs.flatMap stpC) gx s2) ∧ t13.size ≤ t.size ∧ Hid (Sofar b13 R ((argsR ar 0 s2 t13.data.toList).bind kk)))
        case first =>
          by_cases hC1 : C = 1
          · subst hC1
            have hb1 : (((1 : Nat) : Int) == 1) = true := rfl
            go_wp2_with fail
            refine (small_any a t10 b10 (by omega) _ X12.out.st.rd).mono ?_
            rintro r w13 ⟨A, t13, b13, rfl, hA, hr13, ht13, hg13, hf13, htr13⟩
            have X13 := Lib.hid (X12.out.read hr13 hg13)
            have F13 := Lib.hid (sofarNum F10.out hf13 htr13)
            obtain ⟨e0, e1, e2, e3, e4⟩ := x_cells X13.out.x
            have fx := blk_free X13.out.x
            clear hr13 hg13 hf13 htr13 y0 y1 y2 y3 y4
            go_wp2_with fail
            go_meet
            case rel => exact ⟨rfl, _, t13, b13, Lib.hid (X13.out.setA A), by omega, by rw [AR.out]; exact F13⟩
          · have hb1 : ((C : Int) == 1) = false := by simp; omega
            go_wp2_with fail
            go_meet
            case rel => exact ⟨rfl, _, t10, b10, X12, by omega, Lib.hid (by rw [AR.out]; exact sofarNoNum hC1 F10.out)⟩
        case rest =>
          obtain ⟨rfl, s2, t13, b13, X13, ht13, F13⟩ := hcut
          clear y0 y1 y2 y3 y4 X12 F10
          go_wp2_with fail
          go_loopw [66] (fun j wr => ∃ (q : Nat) (s3 : Stp) (t14 : ByteArray) (b14 : Bool), q ≤ ar ∧ j = .int .i64 q ∧ Hid (XdS w wr a 102 t14 b14 RB g #[.int .i64 P, .slice B1 n1 c1, .slice B2 n2 c2, .slice B3 n3 c3, .slice B4 n4 c4, .slice B5 n5 c5, .slice A6 m c6] L (.slice A6 m c6) m (cs.flatMap stpC) gx s3) ∧ t14.size ≤ t.size ∧ Hid (Sofar b14 R ((argsR (ar - q) q s3 t14.data.toList).bind kk))) (fun j _ => ar - (intOf j).toNat)
          case atStart => exact ⟨0, s2, t13, b13, Nat.zero_le _, rfl, X13, ht13, F13⟩
          case round =>
            obtain ⟨q, s3, t14, b14, hq, rfl, X, ht14, F⟩ := hrel
            clear X13 F13
            by_cases hqlt : q < ar
            · go_upto_region 17 with fail
              have RD0 : Hid (RdAt wr.drew a 102 t14 b14) := Lib.hid X.out.st.rd
              have RD1 : Hid (∀ o, RdAt (wr.drew.alloc o) a 102 t14 b14) := Lib.hid fun o => X.out.st.rd.up ((Below.refl _ _).alloc (Nat.le_refl _) _).drew
              have AW := Lib.hid X.out.st.rd.lt
              have LD : Hid (∀ w', (wr.drew.alloc (.cells #[.pointer (some ⟨gx, 2, none⟩), .pointer (some ⟨gx, 3, none⟩), .pointer (some ⟨gx, 4, none⟩)] 105)).grownBy w' (some a) → w'.cell? ⟨wr.heap.size, 0, none⟩ = some (.pointer (some ⟨gx, 2, none⟩)) ∧ w'.cell? ⟨wr.heap.size, 1, none⟩ = some (.pointer (some ⟨gx, 3, none⟩)) ∧ w'.cell? ⟨wr.heap.size, 2, none⟩ = some (.pointer (some ⟨gx, 4, none⟩))) :=
                Lib.hid fun w' hg => ⟨grown_cell hg (by simp [go_sem]) (by have := AW.out; simp; omega), grown_cell hg (by simp [go_sem]) (by have := AW.out; simp; omega), grown_cell hg (by simp [go_sem]) (by have := AW.out; simp; omega)⟩
              obtain ⟨N, hN⟩ : ∃ N, ar - q = N + 1 := ⟨ar - q - 1, by omega⟩
              have F' : Hid (Sofar b14 R ((argsR (N + 1) q s3 t14.data.toList).bind kk)) := by rw [← hN]; exact F
              have hN2 : ar - (q + 1) = N := by omega
              have HN := Lib.hid hN2
              clear F hN hN2
              have hq3 : q = 0 ∨ q = 1 ∨ q = 2 := by omega
              rcases hq3 with rfl | rfl | rfl
              · go_region_with (go_at_call 58; ((with_reducible refine (small_any a t14 b14 (by omega) _ ?_).mono ?_); (first | exact RD0.out | exact RD1.out _); rintro r w15 ⟨V, t15, b15, rfl, hV, hr15, ht15, hg15, hf15, htr15⟩; (first | have X15 := Lib.hid (X.out.drew.read hr15 hg15) | have X15 := Lib.hid ((X.out.drew.grow ((Below.refl _ _).alloc (Nat.le_refl _) _)).read hr15 hg15)); (first | (have LX := LD.out _ hg15; obtain ⟨ld0, ld1, ld2⟩ := LX) | skip); have F15 := Lib.hid (sofarArg F'.out hf15 htr15); obtain ⟨e0, e1, e2, e3, e4⟩ := x_cells X15.out.x; have fx := blk_free X15.out.x; have lx := lt_of_block X15.out.x; clear hr15 hg15 hf15 htr15))
                all_goals
                  go_wp2_with fail
                  go_roundw
                  case rel => exact ⟨1, Proofs.YtgglbjniclkkpaaDoor.setArg s3 0 V, t15, b15, by omega, by go_num, by first | exact Lib.hid (X15.out.setA V) | exact Lib.hid ((X15.out.setA V).grow ((Below.refl _ _).alloc (Nat.le_refl _) _)), by omega, by have h := HN.out; rw [show ar - 1 = N by omega]; exact F15⟩
                  case measure => simp [intOf]; omega
              · go_region_with (go_at_call 58; ((with_reducible refine (small_any a t14 b14 (by omega) _ ?_).mono ?_); (first | exact RD0.out | exact RD1.out _); rintro r w15 ⟨V, t15, b15, rfl, hV, hr15, ht15, hg15, hf15, htr15⟩; (first | have X15 := Lib.hid (X.out.drew.read hr15 hg15) | have X15 := Lib.hid ((X.out.drew.grow ((Below.refl _ _).alloc (Nat.le_refl _) _)).read hr15 hg15)); (first | (have LX := LD.out _ hg15; obtain ⟨ld0, ld1, ld2⟩ := LX) | skip); have F15 := Lib.hid (sofarArg F'.out hf15 htr15); obtain ⟨e0, e1, e2, e3, e4⟩ := x_cells X15.out.x; have fx := blk_free X15.out.x; have lx := lt_of_block X15.out.x; clear hr15 hg15 hf15 htr15))
                all_goals
                  go_wp2_with fail
                  go_roundw
                  case rel => exact ⟨2, Proofs.YtgglbjniclkkpaaDoor.setArg s3 1 V, t15, b15, by omega, by go_num, by first | exact Lib.hid (X15.out.setB V) | exact Lib.hid ((X15.out.setB V).grow ((Below.refl _ _).alloc (Nat.le_refl _) _)), by omega, by have h := HN.out; rw [show ar - 2 = N by omega]; exact F15⟩
                  case measure => simp [intOf]; omega
              · go_region_with (go_at_call 58; ((with_reducible refine (small_any a t14 b14 (by omega) _ ?_).mono ?_); (first | exact RD0.out | exact RD1.out _); rintro r w15 ⟨V, t15, b15, rfl, hV, hr15, ht15, hg15, hf15, htr15⟩; (first | have X15 := Lib.hid (X.out.drew.read hr15 hg15) | have X15 := Lib.hid ((X.out.drew.grow ((Below.refl _ _).alloc (Nat.le_refl _) _)).read hr15 hg15)); (first | (have LX := LD.out _ hg15; obtain ⟨ld0, ld1, ld2⟩ := LX) | skip); have F15 := Lib.hid (sofarArg F'.out hf15 htr15); obtain ⟨e0, e1, e2, e3, e4⟩ := x_cells X15.out.x; have fx := blk_free X15.out.x; have lx := lt_of_block X15.out.x; clear hr15 hg15 hf15 htr15))
                all_goals
                  go_wp2_with fail
                  go_roundw
                  case rel => exact ⟨3, Proofs.YtgglbjniclkkpaaDoor.setArg s3 2 V, t15, b15, by omega, by go_num, by first | exact Lib.hid (X15.out.setE V) | exact Lib.hid ((X15.out.setE V).grow ((Below.refl _ _).alloc (Nat.le_refl _) _)), by omega, by have h := HN.out; rw [show ar - 3 = N by omega]; exact F15⟩
                  case measure => simp [intOf]; omega
            · have hqe : ar - q = 0 := by omega
              have F' : Hid (Sofar b14 R ((argsR 0 q s3 t14.data.toList).bind kk)) := by rw [← hqe]; exact F
              rw [KK.out] at F'
              have FM := Lib.hid (sofarMore F'.out)
              clear F F' hqe
              obtain ⟨e0, e1, e2, e3, e4⟩ := x_cells X.out.x
              obtain ⟨d0, d1, d2, d3, d4, d5, d6⟩ := net_cells X.out.st.net
              go_wp2_with (at_builtin; refine wpList_append_own _ rfl _ _ 24 rfl w.heap.size 31 i0 (.agg #[.int .i64 0, .int .i64 0, .int .i64 0, .int .i64 0, .int .i64 0]) 5 40 Tryd.underlying24 hi0 hz0 hz1 hz2 rfl (by decide) _ _ _ rfl (X.out.st.code.alloc _) ⟨wr.heap.size, 0, none⟩ 1 1 (stpC s3) rfl rfl ?c1 ?c2 ?c3 ?c4 ?c5 ?_)
              case c1 =>
                intro j u hj
                match j, hj with
                | 0, hj => simp [stpC] at hj; subst hj; simp [Addr.add]
                | 1, hj => simp [stpC] at hj; subst hj; simp [Addr.add]
                | 2, hj => simp [stpC] at hj; subst hj; simp [Addr.add]
                | 3, hj => simp [stpC] at hj; subst hj; simp [Addr.add]
                | 4, hj => simp [stpC] at hj; subst hj; simp [Addr.add]
                | j + 5, hj => simp [stpC] at hj
              case c2 =>
                intro u hu
                simp only [stpC, List.mem_cons, List.not_mem_nil, or_false] at hu
                rcases hu with rfl | rfl | rfl | rfl | rfl <;> rfl
              case c3 => unfold maxLen; omega
              case c4 => omega
              case c5 => have := X.out.st.below.size; simp; omega
              intro v' w16 hown' hgrow _
              obtain ⟨A7, c7, rfl⟩ : ∃ A c, v' = .slice A (m + 1) c := by
                rcases hown'.2 with ⟨_, h⟩ | ⟨g', cap, cur, rfl, _⟩
                · omega
                · exact ⟨_, _, rfl⟩
              have Y := Lib.hid ((X.out.st.grow ((Below.refl _ _).alloc (Nat.le_refl _) _)).more hgrow hown')
              clear hown' hgrow d0 d1 d2 d3 d4 d5 d6 e0 e1 e2 e3 e4 X
              obtain ⟨d0, d1, d2, d3, d4, d5, d6⟩ := net_cells Y.out.net
              have fg := blk_free Y.out.net
              go_wp2_with fail
              go_roundw
              case rel =>
                refine ⟨m + 1, t14, b14, cs ++ [s3], A7, c7, by omega, by go_num, Lib.hid ?_, by omega, FM⟩
                rw [List.flatMap_append, List.flatMap_cons, List.flatMap_nil, List.append_nil]
                exact Y.out.set 6 _
              case measure => simp [intOf]; omega
      · have BAD : Hid (R = none) := Lib.hid (F.out.bad rfl)
        have hz := (S.out.res (w.heap.size, #[.int .i64 0, .slice none 0 0, .slice none 0 0, .slice none 0 0, .slice none 0 0, .slice none 0 0, .slice none 0 0], 26) (by rw [HRB.out]; exact List.mem_singleton.2 rfl)).1
        obtain ⟨r0, r1, r2, r3, r4, r5, r6⟩ := net_cells hz
        have rf := blk_free hz
        have HZ := Lib.hid hz
        go_wp2_with fail
        have hnone : ansV (readV s.data.toList) = ((3, -1), zeroN) := by rw [READ.out, BAD.out]; rfl
        refine bodyPost_ret (v := .tuple #[.agg #[.int .i64 0, .slice none 0 0, .slice none 0 0, .slice none 0 0, .slice none 0 0, .slice none 0 0, .slice none 0 0], .iface 36 (.int .i64 3)]) (by simp [results, Tryd.results19, go_sem, r0, r1, r2, r3, r4, r5, r6]) rfl ⟨0, none, none, none, none, none, none, 0, 0, 0, 0, 0, 0, 0, 0, 0, 0, 0, 0, _, rfl, ?_, ?_, ?_⟩
        · rw [hnone]; exact .inr (.inl ⟨rfl, rfl, by decide⟩)
        · rw [hnone]; exact zeroAt _
        · exact below_grow S.out.below (sets_grown _ _ _ _ _ _ _ _ _) (Nat.le_refl _)
    · obtain rfl : m = K := by omega
      have F0 : Hid (Sofar b R (FIN cs t.data.toList)) := Lib.hid (F.out.to (by rw [Nat.sub_self, restC_zero]))
      have hz := (S.out.res (w.heap.size, #[.int .i64 0, .slice none 0 0, .slice none 0 0, .slice none 0 0, .slice none 0 0, .slice none 0 0, .slice none 0 0], 26) (by rw [HRB.out]; exact List.mem_singleton.2 rfl)).1
      obtain ⟨r0, r1, r2, r3, r4, r5, r6⟩ := net_cells hz
      have rf := blk_free hz
      have HZ := Lib.hid hz
      cases b
      · by_cases hte : t = ⟨#[]⟩
        · subst hte
          have hteq : ((⟨#[]⟩ : ByteArray) == ⟨#[]⟩) = true := by rfl
          have GOOD : Hid (R = some ⟨P, x1, x2, x3, x4, x5, cs⟩) := Lib.hid (by rw [F0.out.good rfl, HFIN.out]; rfl)
          have e0 := S.out.rd.c0
          obtain ⟨d0, d1, d2, d3, d4, d5, d6⟩ := net_cells S.out.net
          have LEN : Hid (x1.length + x2.length + x3.length + x4.length + x5.length + cs.length ≤ 1500) := Lib.hid (by
            have h1 := (imageR_len (HR.out.symm.trans GOOD.out)).2.2
            have h3 : s.data.toList.length = s.size := by rw [Array.length_toList]; rfl
            rw [T0.out, drop_is, List.length_drop, h3] at h1
            simp only [] at h1
            omega)
          have NA := Lib.hid (RdS.netAt (P := (P : Int)) (c6' := c6) (by have h := S.out; rw [HL.out] at h; exact h) (by omega) LEN.out)
          go_wp2_with fail
          refine (check_anyL _ _ _ _ _ _ _ _ _ _ _ _ _ _ _ _ _ _ _ _ wr NA.out (HGL.out.up S.out.below)).mono ?_
          rintro r w17 ⟨v, rfl, herr, hb17⟩
          have S17 := Lib.hid (S.out.grow hb17)
          have hz17 := (grown_blk (grown_below none hb17) HZ.out (by simp))
          have HZ17 := Lib.hid hz17
          clear r0 r1 r2 r3 r4 r5 r6 rf d0 d1 d2 d3 d4 d5 d6 e0 e1
          obtain ⟨r0, r1, r2, r3, r4, r5, r6⟩ := net_cells hz17
          have rf := blk_free hz17
          obtain ⟨d0, d1, d2, d3, d4, d5, d6⟩ := net_cells S17.out.net
          have fg := blk_free S17.out.net
          clear hb17 S hz hz17
          have HERR := Lib.hid herr
          rcases herr with ⟨rfl, j1, j2⟩ | ⟨rfl, j1, j2⟩ | ⟨eb, rfl, j1, j2, j3⟩
          · have JJ : Hid (judgeV ⟨P, x1, x2, x3, x4, x5, cs⟩ = (0, -1)) := Lib.hid (Prod.ext j1 j2)
            clear j1 j2
            have AN : Hid (ansV (readV s.data.toList) = ((0, -1), ⟨P, x1, x2, x3, x4, x5, cs⟩)) := Lib.hid (by rw [READ.out, GOOD.out]; show (if _ then _ else _) = _; rw [if_pos JJ.out])
            go_wp2_with fail
            refine (clip_any A6 m c6 w17 (own_head S17.out.code) (own_cap S17.out.code)).mono ?_
            rintro r w18 ⟨rfl, hw18⟩
            obtain rfl : w17 = w18 := hw18.symm
            have S18 : Hid (RdS w (w17.setCell ⟨g, 6, none⟩ (.slice A6 m m)) a 102 ⟨#[]⟩ false RB g #[.int .i64 P, .slice B1 n1 c1, .slice B2 n2 c2, .slice B3 n3 c3, .slice B4 n4 c4, .slice B5 n5 c5, .slice A6 m m] L (.slice A6 m c6) m (cs.flatMap stpC)) := Lib.hid (S17.out.set 6 (.slice A6 m m))
            go_upto_region 27 with fail
            obtain ⟨W18, hW18⟩ : ∃ W, W = w17.setCell ⟨g, 6, none⟩ (.slice A6 m m) := ⟨_, rfl⟩
            rw [← hW18] at S18 ⊢
            clear hW18 r0 r1 r2 r3 r4 r5 r6 rf d0 d1 d2 d3 d4 d5 d6 fg
            have hz18 := (S18.out.res (w.heap.size, #[.int .i64 0, .slice none 0 0, .slice none 0 0, .slice none 0 0, .slice none 0 0, .slice none 0 0, .slice none 0 0], 26) (by rw [HRB.out]; exact List.mem_singleton.2 rfl)).1
            have HZ18 := Lib.hid hz18
            obtain ⟨r0, r1, r2, r3, r4, r5, r6⟩ := net_cells hz18
            have rf := blk_free hz18
            obtain ⟨d0, d1, d2, d3, d4, d5, d6⟩ := net_cells S18.out.net
            clear hz18
            go_wp2_with fail
            refine bodyPost_ret (v := .tuple #[.agg #[.int .i64 P, .slice B1 n1 c1, .slice B2 n2 c2, .slice B3 n3 c3, .slice B4 n4 c4, .slice B5 n5 c5, .slice A6 m m], .nilIface]) (by simp [results, Tryd.results19, go_sem, r0, r1, r2, r3, r4, r5, r6]) rfl ⟨P, B1, B2, B3, B4, B5, A6, n1, c1, n2, c2, n3, c3, n4, c4, n5, c5, m, m, _, rfl, ?_, ?_, ?_⟩
            · rw [AN.out]; exact .inl ⟨rfl, rfl, rfl⟩
            · rw [AN.out]
              have h := S18.out.out HZ18.out (.inl rfl) (by rw [A.out]; omega) (Nat.le_refl _) (sets_grown _ _ (.int .i64 P) (.slice B1 n1 c1) (.slice B2 n2 c2) (.slice B3 n3 c3) (.slice B4 n4 c4) (.slice B5 n5 c5) (.slice A6 m m))
              rw [HL.out] at h
              exact h.netAt (by omega) LEN.out
            · exact below_grow S18.out.below (sets_grown _ _ _ _ _ _ _ _ _) (Nat.le_refl _)
          · have hb : (judgeV ⟨P, x1, x2, x3, x4, x5, cs⟩).1 ≠ 0 := j2
            have AN : Hid (ansV (readV s.data.toList) = (judgeV ⟨P, x1, x2, x3, x4, x5, cs⟩, zeroN)) := Lib.hid (by rw [READ.out, GOOD.out]; show (if _ then _ else _) = _; rw [if_neg (fun e => hb (by rw [e]))])
            clear hb j1 j2
            go_wp2_with fail
            refine bodyPost_ret (v := .tuple #[.agg #[.int .i64 0, .slice none 0 0, .slice none 0 0, .slice none 0 0, .slice none 0 0, .slice none 0 0, .slice none 0 0], .iface 36 (.int .i64 (judgeV ⟨P, x1, x2, x3, x4, x5, cs⟩).1)]) (by simp [results, Tryd.results19, go_sem, r0, r1, r2, r3, r4, r5, r6]) rfl ⟨0, none, none, none, none, none, none, 0, 0, 0, 0, 0, 0, 0, 0, 0, 0, 0, 0, _, rfl, ?_, ?_, ?_⟩
            · rw [AN.out]; exact errAt_set HERR.out r1 (sets_grown _ _ _ _ _ _ _ _ _)
            · rw [AN.out]; exact zeroAt _
            · exact below_grow S17.out.below (sets_grown _ _ _ _ _ _ _ _ _) (Nat.le_refl _)
          · have hb : (judgeV ⟨P, x1, x2, x3, x4, x5, cs⟩).1 ≠ 0 := j3
            have AN : Hid (ansV (readV s.data.toList) = (judgeV ⟨P, x1, x2, x3, x4, x5, cs⟩, zeroN)) := Lib.hid (by rw [READ.out, GOOD.out]; show (if _ then _ else _) = _; rw [if_neg (fun e => hb (by rw [e]))])
            clear hb j1 j2 j3
            go_wp2_with fail
            refine bodyPost_ret (v := .tuple #[.agg #[.int .i64 0, .slice none 0 0, .slice none 0 0, .slice none 0 0, .slice none 0 0, .slice none 0 0, .slice none 0 0], .iface 77 (.pointer (some ⟨eb, 0, none⟩))]) (by simp [results, Tryd.results19, go_sem, r0, r1, r2, r3, r4, r5, r6]) rfl ⟨0, none, none, none, none, none, none, 0, 0, 0, 0, 0, 0, 0, 0, 0, 0, 0, 0, _, rfl, ?_, ?_, ?_⟩
            · rw [AN.out]; exact errAt_set HERR.out r1 (sets_grown _ _ _ _ _ _ _ _ _)
            · rw [AN.out]; exact zeroAt _
            · exact below_grow S17.out.below (sets_grown _ _ _ _ _ _ _ _ _) (Nat.le_refl _)
        · have e0 := S.out.rd.c0
          have hne : t.toList.isEmpty = false := by
            rw [ByteArray.toList_eq]
            cases hl : t.data.toList with
            | nil => exact absurd (by cases t; simp at hl; simp [hl]) hte
            | cons _ _ => rfl
          have BAD : Hid (R = none) := Lib.hid (by
            rw [F0.out.good rfl, HFIN.out]
            show (if t.data.toList = [] then _ else _) = _
            rw [if_neg]
            intro h
            exact hte (by cases t; simp at h; simp [h]))
          go_wp2_with fail
          have hnone : ansV (readV s.data.toList) = ((3, -1), zeroN) := by rw [READ.out, BAD.out]; rfl
          refine bodyPost_ret (v := .tuple #[.agg #[.int .i64 0, .slice none 0 0, .slice none 0 0, .slice none 0 0, .slice none 0 0, .slice none 0 0, .slice none 0 0], .iface 36 (.int .i64 3)]) (by simp [results, Tryd.results19, go_sem, r0, r1, r2, r3, r4, r5, r6]) rfl ⟨0, none, none, none, none, none, none, 0, 0, 0, 0, 0, 0, 0, 0, 0, 0, 0, 0, _, rfl, ?_, ?_, ?_⟩
          · rw [hnone]; exact .inr (.inl ⟨rfl, rfl, by decide⟩)
          · rw [hnone]; exact zeroAt _
          · exact below_grow S.out.below (sets_grown _ _ _ _ _ _ _ _ _) (Nat.le_refl _)
      · have BAD : Hid (R = none) := Lib.hid (F0.out.bad rfl)
        go_wp2_with fail
        have hnone : ansV (readV s.data.toList) = ((3, -1), zeroN) := by rw [READ.out, BAD.out]; rfl
        refine bodyPost_ret (v := .tuple #[.agg #[.int .i64 0, .slice none 0 0, .slice none 0 0, .slice none 0 0, .slice none 0 0, .slice none 0 0, .slice none 0 0], .iface 36 (.int .i64 3)]) (by simp [results, Tryd.results19, go_sem, r0, r1, r2, r3, r4, r5, r6]) rfl ⟨0, none, none, none, none, none, none, 0, 0, 0, 0, 0, 0, 0, 0, 0, 0, 0, 0, _, rfl, ?_, ?_, ?_⟩
        · rw [hnone]; exact .inr (.inl ⟨rfl, rfl, by decide⟩)
        · rw [hnone]; exact zeroAt _
        · exact below_grow S.out.below (sets_grown _ _ _ _ _ _ _ _ _) (Nat.le_refl _)
end Go.Proofs.YtgglbjniclkkpaaDoor

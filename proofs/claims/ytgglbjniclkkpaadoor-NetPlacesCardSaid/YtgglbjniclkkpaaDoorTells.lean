/-
  The keep's tells: what code tells, in ticks, as one list.
-/
import Derived.Test.YtgglbjniclkkpaaDoorTickL
import Derived.Test.YtgglbjniclkkpaaDoorFewK
import Derived.Test.YtgglbjniclkkpaaDoorCoded
namespace Go.Proofs.YtgglbjniclkkpaaDoor
open Go.RowKit
set_option linter.unusedVariables false

/-- What code tells, in ticks, as one list. -/
def runsV (N : NetP) (K : List Bool) : List (List Int) → List Int → List Int → List Int
  | [], _, out => out
  | I :: r, V, out => runsV N K r (tickV N K I V).2 (out ++ (out.length : Int) :: (tickV N K I V).1)
/-- append of a list of ints onto a list of the call's own. -/
theorem run_append_nums (w : World) (base : Nat) (v : Value) (n : Nat) (xs : List Value) (hown : w.ownsRow base 2 1 v n xs) (A : Option Addr) (m c : Nat) (ys : List Int) (hy : IntsAt w A m ys)
    (hs : n + m ≤ 1048576) (hbase : base ≤ w.heap.size) :
    ∃ v' w', (Builtin.append_ #[22, 22] 22 #[v, .slice A m c]).run Tryd.prog w = .ok v' w' ∧ w'.ownsRow base 2 1 v' (n + m) (xs ++ ys.map (Value.int .i64)) ∧ w.grownBy w' v.ownBlock ∧ (v'.ownBlock = v.ownBlock ∨ v'.ownBlock = some w.heap.size) := by
  obtain ⟨i0, hi, hz0, hz1, hz2⟩ := info_parts infoN
  rcases A with _ | ad
  · have hm : m = 0 := by
      rcases Nat.eq_zero_or_pos m with h0 | h0
      · exact h0
      · obtain ⟨b, o, h, _⟩ := hy.2 h0
        cases h
    subst hm
    obtain rfl := hy.zero
    have hrun : (Builtin.append_ #[22, 22] 22 #[v, .slice none 0 c]).run Tryd.prog w = .ok v w := by
      rcases hown.2 with ⟨rfl, rfl⟩ | ⟨g, cap, cur, rfl, _, _, hnc, _⟩
      · simp [Builtin.append_, run_underlying Tryd.underlying22, sizeOf, typeInfo, hi, Builtin.lenOf, Builtin.firstCells]
      · simp [Builtin.append_, run_underlying Tryd.underlying22, sizeOf, typeInfo, hi, Builtin.lenOf, Builtin.firstCells, hnc, storeCells]
    exact ⟨v, w, hrun, by simpa using hown, World.grownBy.refl w _, .inl rfl⟩
  · have hl : (ys.map (Value.int .i64)).length = m * 1 := by simp [hy.1]
    have hnews : ∀ j u, (ys.map (Value.int .i64))[j]? = some u → w.cell? (ad.add j) = some u := by
      intro j u hu
      have hj : j < m := by
        have hh := (List.getElem?_eq_some_iff.1 hu).1
        rw [List.length_map, hy.1] at hh
        exact hh
      obtain ⟨b, o, h, hc⟩ := hy.2 (by omega)
      have hcj := hc j hj
      rw [Option.some.inj h, add_none, map_get hu]
      exact hcj
    obtain ⟨v', w', h1, h2, h3, _, h5⟩ := run_append_own_at (P := Tryd.prog) w base 22 22 2 i0 (.int .i64 0) 1 8 Tryd.underlying22 hi hz0 hz1 hz2 rfl (by decide) v n xs hown ad m c _ hl hnews
      (by intro u hu; simp at hu; obtain ⟨x, _, rfl⟩ := hu; rfl) (by unfold maxLen; omega) (by omega) hbase
    exact ⟨v', w', h1, h2, h3, h5⟩
/-- An append inside a region that draws, by its run. -/
theorem step_append_run {P : Program} {ops : Array Oper} {o : Oper} {a : Act} {w w' : World} {K : Act → World → Prop} {Q : Exit → Act → World → Prop} {E : Prop} (hgd : o.guard = none) (s x : Operand) (t : TypeId)
    (ho : o.op = .call { callee := .builtin .append, args := #[s, x], argTypes := #[t, t] }) (v u v' : Value) (hs : a.eval s = v) (hx : a.eval x = u) (hrun : (Builtin.append_ #[t, t] o.type #[v, u]).run P w = .ok v' w') (h : K (a.put o.dst v') w') :
    if Region.wanted o (yielded ops a.tmps) = true then Oper.wp P o a w K Q else E := by
  have hw : Region.wanted o (yielded ops a.tmps) = true := by simp [Region.wanted, hgd]
  rw [if_pos hw]
  unfold Oper.wp execOp
  simp only [ho, resolve, invoke, builtin, Sem.run_bind, Sem.run_pure, Result.andThen_ok, List.map_toArray, List.map_cons, List.map_nil, hs, hx, hrun]
  exact h
theorem row_grow2 {w w' : World} {B n : Nat} {e : TypeId} {v : Value} {xs : List Value} (h : w.ownsRow B e 1 v n xs) (hb : Below w.heap.size w w') : w'.ownsRow B e 1 v n xs := h.kept (grown_below none hb) (by cases v.ownBlock <;> simp)
theorem map_app {xs ys : List Int} {w : World} {B n : Nat} {v : Value} (h : w.ownsRow B 2 1 v n (xs.map (Value.int .i64) ++ ys.map (Value.int .i64))) : w.ownsRow B 2 1 v n ((xs ++ ys).map (Value.int .i64)) := by rw [List.map_append]; exact h
/-- While ticks are told. -/
structure TSt (W w0 w : World) (m gk : Nat) (NC : List Value) (AV : Option Addr) (p cV : Nat) (V : List Int) (K : List Bool) (v : Value) (k : Nat) (ys : List Int) : Prop where
  M : MSt W w m gk NC AV p cV V K
  O : w.ownsRow w0.heap.size 2 1 v k (ys.map (Value.int .i64))
  sz : w0.heap.size ≤ w.heap.size
  lm : m < w0.heap.size
  lg : gk < w0.heap.size
  lv : ∀ x, (Value.slice AV p cV).ownBlock = some x → x < w0.heap.size
  lw : W.heap.size ≤ w0.heap.size
section
variable {W w0 w w' : World} {m gk : Nat} {NC : List Value} {AV : Option Addr} {p cV : Nat} {V V' : List Int} {K : List Bool} {v v' : Value} {k k' : Nat} {ys ys' : List Int}
theorem TSt.grow (T : TSt W w0 w m gk NC AV p cV V K v k ys) (hb : Below w.heap.size w w') : TSt W w0 w' m gk NC AV p cV V K v k ys :=
  ⟨T.M.grow hb, row_grow2 T.O hb, Nat.le_trans T.sz hb.size, T.lm, T.lg, T.lv, T.lw⟩
theorem TSt.alloc (T : TSt W w0 w m gk NC AV p cV V K v k ys) (o : Obj) : TSt W w0 (w.alloc o) m gk NC AV p cV V K v k ys := T.grow ((Below.refl _ _).alloc (Nat.le_refl _) _)
theorem TSt.drew (T : TSt W w0 w m gk NC AV p cV V K v k ys) : TSt W w0 w.drew m gk NC AV p cV V K v k ys := ⟨T.M.drew, T.O, T.sz, T.lm, T.lg, T.lv, T.lw⟩
theorem TSt.append (T : TSt W w0 w m gk NC AV p cV V K v k ys) (ho : w'.ownsRow w0.heap.size 2 1 v' k' (ys'.map (Value.int .i64))) (hg : w.grownBy w' v.ownBlock) : TSt W w0 w' m gk NC AV p cV V K v' k' ys' :=
  ⟨T.M.other hg (fun e => by have h1 := (own_lt' T.O m e.symm).1; have h2 := T.lm; omega) (fun e => by have h1 := (own_lt' T.O gk e.symm).1; have h2 := T.lg; omega)
    (by rcases hv : (Value.slice AV p cV).ownBlock with _ | y
        · exact .inl rfl
        · exact .inr fun e => by have h1 := (own_lt' T.O y e.symm).1; have h2 := T.lv y hv; omega)
    (fun x e => Nat.le_trans T.lw (own_lt' T.O x e).1), ho, Nat.le_trans T.sz hg.size, T.lm, T.lg, T.lv, T.lw⟩
theorem TSt.tick (T : TSt W w0 w m gk NC AV p cV V K v k ys) (hS : MSt W w' m gk NC AV p cV V' K) (hg : w.grownBy w' (Value.slice AV p cV).ownBlock) : TSt W w0 w' m gk NC AV p cV V' K v k ys :=
  ⟨hS, row_kept T.O hg T.lv, Nat.le_trans T.sz hg.size, T.lm, T.lg, T.lv, T.lw⟩
end
set_option maxHeartbeats 16000000 in
set_option maxRecDepth 100000 in
theorem tells_ok (A1 A2 A3 A4 A5 A6 : Option Addr) (n1 c1 n2 c2 n3 c3 n4 c4 n5 c5 n6 c6 : Nat) (N : NetP) (B : Option Addr) (ni ci : Nat) (R : List (List Int)) (w : World) (h : NetAtL w n1 A1 A2 A3 A4 A5 A6 n1 c1 n2 c2 n3 c3 n4 c4 n5 c5 n6 c6 N) (hg : HandleAt w) (hj : judgeV N = (0, -1)) (hB : RowsAt w B ni R) (hf : fewB R = true) (h30 : n3 ≤ 30) :
    Calls Tryd.prog 28 #[.agg #[.int .i64 n1, .slice A1 n1 c1, .slice A2 n2 c2, .slice A3 n3 c3, .slice A4 n4 c4, .slice A5 n5 c5, .slice A6 n6 c6], .slice B ni ci] w fun r w' => ∃ A k c, k ≤ 4000 ∧ r = .returned (.tuple #[.slice A k c, .bool true]) ∧
      w'.ownsRow w.heap.size 2 1 (.slice A k c) k ((runsV N (kpV N.keeps (List.replicate n1 false)) R N.first []).map (Value.int .i64)) ∧ Below w.heap.size w w' := by
  have hni : ni ≤ 40 := by
    have h1 := hf
    unfold fewB at h1
    rw [Bool.and_eq_true] at h1
    have := of_decide_eq_true h1.1
    rw [hB.1] at this
    exact this
  have hz := Lib.hid ((Below.refl w.heap.size w).alloc (Nat.le_refl _) (Obj.cells #[.int .i64 n1, .slice A1 n1 c1, .slice A2 n2 c2, .slice A3 n3 c3, .slice A4 n4 c4, .slice A5 n5 c5, .slice A6 n6 c6] 26))
  have l1 := h.i1.1
  have hgd := (good_net hj).2
  rw [l1] at hgd
  have GD := Lib.hid hgd
  have H := Lib.hid h
  have HG := Lib.hid hg
  have HR := Lib.hid hB
  have FW := Lib.hid hf
  have JJ := Lib.hid hj
  clear h hg hj hB hf hgd l1
  go_enter Tryd.func28, Tryd.ntmps28
  go_wp2_with fail
  obtain ⟨W, hW⟩ : ∃ X, X = w.alloc (Obj.cells #[.int .i64 n1, .slice A1 n1 c1, .slice A2 n2 c2, .slice A3 n3 c3, .slice A4 n4 c4, .slice A5 n5 c5, .slice A6 n6 c6] 26) := ⟨_, rfl⟩
  rw [← hW] at hz
  rw [← hW]
  clear hW
  have NW := Lib.hid (H.out.up hz.out)
  have GW := Lib.hid (HG.out.up hz.out)
  have RW := Lib.hid (HR.out.up hz.out)
  refine (new_okL n1 A1 A2 A3 A4 A5 A6 n1 c1 n2 c2 n3 c3 n4 c4 n5 c5 n6 c6 N W NW.out GW.out JJ.out).mono ?_
  rintro r w0 ⟨m, gm, AM, cM, rfl, hM⟩
  have T0 : Hid (TSt W w0 w0 m gm [.int .i64 n1, .slice A1 n1 c1, .slice A2 n2 c2, .slice A3 n3 c3, .slice A4 n4 c4, .slice A5 n5 c5, .slice A6 n6 c6] AM n1 cM N.first (kpV N.keeps (List.replicate n1 false)) (.slice none 0 0) 0 []) :=
    Lib.hid ⟨hM, World.ownsRow_nil _ _ _ _, Nat.le_refl _, lt_of_block hM.box, lt_of_block hM.ks, fun x e => (own_lt' hM.vs x e).2, hM.below.size⟩
  clear hM
  go_wp2_with fail
  go_loopw [8, 9] (fun v i wr => ∃ (k j : Nat) (V ys : List Int), k ≤ ni ∧ i = .int .i64 k ∧ j ≤ 31 * k ∧ Hid (TSt W w0 wr m gm [.int .i64 n1, .slice A1 n1 c1, .slice A2 n2 c2, .slice A3 n3 c3, .slice A4 n4 c4, .slice A5 n5 c5, .slice A6 n6 c6] AM n1 cM V (kpV N.keeps (List.replicate n1 false)) v j ys) ∧ Hid (runsV N (kpV N.keeps (List.replicate n1 false)) (R.drop k) V ys = runsV N (kpV N.keeps (List.replicate n1 false)) R N.first [])) (fun _ i _ => ni - (intOf i).toNat)
  case atStart => exact ⟨0, 0, _, [], Nat.zero_le _, rfl, Nat.le_refl _, T0, Lib.hid rfl⟩
  case round =>
    clear T0
    obtain ⟨k, j, V, ys, hk, rfl, hj, T, F⟩ := hrel
    by_cases hlt : k < ni
    · obtain ⟨bb, o, rfl, hc⟩ := RW.out.2 (by omega)
      obtain ⟨AI, l, c, xs, hc1, hc2, hc3, hc4⟩ := hc k hlt
      have HC2 := Lib.hid hc2
      have HC3 := Lib.hid hc3
      have hl30 : l ≤ 30 := by have := fewB_at FW.out hc1; rw [hc3.1] at this; exact this
      have hcw := cell_up T.out.M.below hc2
      have i0' : (0 : Int) ≤ (k : Int) := by omega
      have i1' : (k : Int) < (ni : Int) := by omega
      obtain ⟨VA, vc, rfl⟩ := own_slice' T.out.O
      have hdr : R.drop k = xs :: R.drop (k + 1) := by
        obtain ⟨hl', e⟩ := List.getElem?_eq_some_iff.1 hc1
        rw [List.drop_eq_getElem_cons hl', e]
      have hys : ys.length = j := by have := T.out.O.1; simpa using this
      have F2 : Hid (runsV N (kpV N.keeps (List.replicate n1 false)) (R.drop (k + 1)) (tickV N (kpV N.keeps (List.replicate n1 false)) xs V).2 (ys ++ (j : Int) :: (tickV N (kpV N.keeps (List.replicate n1 false)) xs V).1) = runsV N (kpV N.keeps (List.replicate n1 false)) R N.first []) := Lib.hid (by have h := F.out; rw [hdr, runsV, hys] at h; exact h)
      clear hc hc1 hc2 hc3 hc4 hdr hys F
      go_upto_region 8 with fail
      have AX := Lib.hid (run_append_nums (wr.alloc (.cells #[.int .i64 j] 2)).drew w0.heap.size (.slice VA j vc) j _ ((T.out.alloc _).drew).O (some ⟨wr.heap.size, 0, none⟩) 1 1 [(j : Int)] (ints_1 (by simp [go_sem])) (by omega) ((T.out.alloc _).drew).sz)
      have LD : Hid (∀ w', (wr.alloc (.cells #[.int .i64 j] 2)).drew.grownBy w' (Value.slice AM n1 cM).ownBlock → w'.cell? ⟨wr.heap.size, 0, none⟩ = some (.int .i64 j)) := Lib.hid fun w' hg => grown_cell hg (by simp [go_sem]) (fun e => by have h1 := T.out.lv _ e.symm; have h2 := T.out.sz; omega)
      have LA : Hid (∀ X : World, (X.alloc (.cells #[.int .i64 j] 2)).cell? ⟨X.heap.size, 0, none⟩ = some (.int .i64 j)) := Lib.hid fun X => by simp [go_sem]
      have LB1 : Hid (∀ x, (Value.slice VA j vc).ownBlock = some x → x < wr.drew.heap.size) := Lib.hid fun x e => (own_lt' T.out.O x e).2
      have LB2 : Hid (∀ x, (Value.slice VA j vc).ownBlock = some x → x < (wr.alloc (.cells #[.int .i64 j] 2)).drew.heap.size) := Lib.hid fun x e => by
        have h := (own_lt' T.out.O x e).2
        show x < (wr.heap.push _).size
        rw [Array.size_push]
        omega
      have J1 : j + 1 ≤ 1048576 := by omega
      have J2 : j + 1 + n3 ≤ 1048576 := by omega
      go_region_held3 (fun w' => w'.cell? ⟨bb, o + k, none⟩ = some (.slice AI l c))
        ((first | exact hcw | assumption | exact cell_up ((Below.refl _ _).alloc (Nat.le_refl _) _) (by assumption)))
        (first | (go_at_call 26; (with_reducible refine (tick_anyL W A1 A2 A3 A4 A5 A6 n1 c1 n2 c2 n3 c3 n4 c4 n5 c5 n6 c6 N NW.out GD.out m gm AM cM V (kpV N.keeps (List.replicate n1 false)) AI l c xs HC3.out (by omega) _ ?_).mono ?_); (first | exact TA.out.M | exact T.out.drew.M | exact ((T.out.alloc _).drew).M); rintro r w8 ⟨OA, k8, d8, rfl, ho8, hS8, hg8⟩; obtain rfl : n3 = k8 := (own_ints ho8).1; have R8 := Lib.hid ho8; (first | have T8 := Lib.hid (TA.out.tick hS8 hg8) | have T8 := Lib.hid (T.out.drew.tick hS8 hg8) | have T8 := Lib.hid (((T.out.alloc _).drew).tick hS8 hg8)); (first | have NC8 := Lib.hid (LD.out _ hg8) | skip); have hcw8 := cell_up hS8.below HC2.out; clear ho8 hS8 hg8) | (obtain ⟨v1, w9, hrun, hown, hgr, _⟩ := AX.out; refine step_append_run (by rfl) _ _ _ (by rfl) _ _ _ (by rfl) (by rfl) hrun ?_; have TA := Lib.hid (((T.out.alloc _).drew).append (map_app hown) hgr); have hcw9 := cell_up TA.out.M.below HC2.out; clear hown hgr) | (obtain ⟨v1, w9, hrun, hown, hgr, _⟩ := run_append_nums w8 w0.heap.size (.slice VA j vc) j _ T8.out.O (some ⟨wr.heap.size, 0, none⟩) 1 1 [(j : Int)] (ints_1 NC8.out) (by omega) T8.out.sz; refine step_append_run (by rfl) _ _ _ (by rfl) _ _ _ (by rfl) (by rfl) hrun ?_; have TA := Lib.hid (T8.out.append (map_app hown) hgr); have R9 := Lib.hid (row_kept R8.out hgr LB2.out); have hcw9 := cell_up TA.out.M.below HC2.out; clear hown hgr) | (obtain ⟨v1, w9, hrun, hown, hgr, _⟩ := run_append_nums (w8.alloc (.cells #[.int .i64 j] 2)) w0.heap.size (.slice VA j vc) j _ (T8.out.alloc _).O (some ⟨w8.heap.size, 0, none⟩) 1 1 [(j : Int)] (ints_1 (LA.out w8)) (by omega) (T8.out.alloc _).sz; refine step_append_run (by rfl) _ _ _ (by rfl) _ _ _ (by rfl) (by rfl) hrun ?_; have TA := Lib.hid ((T8.out.alloc _).append (map_app hown) hgr); have R9 := Lib.hid (row_kept (R8.out.alloc _) hgr LB1.out); have hcw9 := cell_up TA.out.M.below HC2.out; clear hown hgr) | (obtain ⟨v2, w10, hrun2, hown, hgr, _⟩ := run_append_nums w8 w0.heap.size v1 (j + 1) _ T8.out.O OA n3 d8 _ (own_ints R8.out).2.1 (by omega) T8.out.sz; refine step_append_run (by rfl) _ _ _ (by rfl) _ _ _ (by rfl) (by rfl) hrun2 ?_; have TB := Lib.hid (T8.out.append (map_app hown) hgr); have hcw10 := cell_up TB.out.M.below HC2.out; clear hown hgr) | (obtain ⟨v2, w10, hrun2, hown, hgr, _⟩ := run_append_nums w9 w0.heap.size v1 (j + 1) _ TA.out.O OA n3 d8 _ (own_ints R9.out).2.1 (by omega) TA.out.sz; refine step_append_run (by rfl) _ _ _ (by rfl) _ _ _ (by rfl) (by rfl) hrun2 ?_; have TB := Lib.hid (TA.out.append (map_app hown) hgr); have hcw10 := cell_up TB.out.M.below HC2.out; clear hown hgr) | fail)
      all_goals
        go_wp2_with fail
        go_roundw
        case rel => exact ⟨k + 1, j + 1 + n3, _, _, by omega, by go_num, by omega, TB, Lib.hid (by rw [List.append_assoc]; exact F2.out)⟩
        case measure => simp [intOf]; omega
    · have hd : R.drop k = [] := List.drop_of_length_le (by rw [RW.out.1]; omega)
      have F2 : Hid (ys = runsV N (kpV N.keeps (List.replicate n1 false)) R N.first []) := Lib.hid (by have h := F.out; rw [hd] at h; exact h)
      obtain ⟨VA, vc, rfl⟩ := own_slice' T.out.O
      clear F hd
      go_wp2_with fail
      go_ret2
      exact ⟨VA, j, vc, by omega, rfl, by rw [← F2.out]; exact own_base T.out.O (Nat.le_trans hz.out.size T.out.lw), hz.out.trans (T.out.M.below.mono hz.out.size)⟩
set_option maxHeartbeats 4000000 in
set_option maxRecDepth 100000 in
theorem tells_bad (P : Int) (A1 A2 A3 A4 A5 A6 : Option Addr) (n1 c1 n2 c2 n3 c3 n4 c4 n5 c5 n6 c6 : Nat) (N : NetP) (B : Option Addr) (ni ci : Nat) (w : World) (h : NetAtL w P A1 A2 A3 A4 A5 A6 n1 c1 n2 c2 n3 c3 n4 c4 n5 c5 n6 c6 N) (hg : HandleAt w) (hj : (judgeV N).1 ≠ 0) :
    Calls Tryd.prog 28 #[.agg #[.int .i64 P, .slice A1 n1 c1, .slice A2 n2 c2, .slice A3 n3 c3, .slice A4 n4 c4, .slice A5 n5 c5, .slice A6 n6 c6], .slice B ni ci] w fun r w' => r = .returned (.tuple #[.slice none 0 0, .bool false]) ∧ Below w.heap.size w w' := by
  have hz := Lib.hid ((Below.refl w.heap.size w).alloc (Nat.le_refl _) (Obj.cells #[.int .i64 P, .slice A1 n1 c1, .slice A2 n2 c2, .slice A3 n3 c3, .slice A4 n4 c4, .slice A5 n5 c5, .slice A6 n6 c6] 26))
  have HC := Lib.hid (new_badL P A1 A2 A3 A4 A5 A6 n1 c1 n2 c2 n3 c3 n4 c4 n5 c5 n6 c6 N _ (h.up hz.out) (hg.up hz.out) hj)
  clear h hg hj
  go_enter Tryd.func28, Tryd.ntmps28
  go_wp2_with fail
  refine HC.out.mono ?_
  rintro r w1 ⟨v, rfl, he, hne, hb⟩
  have BB := Lib.hid (hz.out.trans (hb.mono hz.out.size))
  clear hb
  rcases he with ⟨rfl, _, _⟩ | ⟨rfl, _, _⟩ | ⟨eb, rfl, _, _, _⟩
  · exact absurd rfl hne
  all_goals
    clear hne
    go_wp2_with fail
    go_ret2
    exact ⟨rfl, BB.out⟩
end Go.Proofs.YtgglbjniclkkpaaDoor

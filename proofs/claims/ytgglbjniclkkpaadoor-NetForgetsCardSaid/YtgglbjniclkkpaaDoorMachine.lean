/-
  net.New: code ahead of its first tick.
-/
import Derived.Test.YtgglbjniclkkpaaDoorTickPlain
import Derived.Test.YtgglbjniclkkpaaDoorReadState
import Derived.Test.YtgglbjniclkkpaaDoorCheck
import Derived.Test.YtgglbjniclkkpaaDoorConcat
import Derived.Deep.RegionHeld3
import Derived.Deep.RegionWith
import Derived.Deep.Cut
import Derived.Deep.CutRange
import Derived.Deep.CutBlock
import Derived.Outline
namespace Go.Proofs.YtgglbjniclkkpaaDoor
open Go.RowKit
set_option linter.unusedVariables false

/-- A machine as it lies in memory: m its block, gk the block of what is kept. -/
structure MSt (W wr : World) (m gk : Nat) (NC : List Value) (AV : Option Addr) (p cV : Nat) (V : List Int) (K : List Bool) : Prop where
  below : Below W.heap.size W wr
  lo : W.heap.size ≤ m
  lk : W.heap.size ≤ gk
  box : wr.heap[m]? = some (.cells (NC ++ [Value.slice AV p cV, Value.slice (some ⟨gk, 0, none⟩) p p]).toArray 110 (0, 0))
  vs : wr.ownsRow W.heap.size 2 1 (.slice AV p cV) p (V.map (Value.int .i64))
  ks : wr.heap[gk]? = some (.cells (K.map Value.bool).toArray 4 (0, 0))
  kl : K.length = p
section
variable {W wr w' : World} {m gk : Nat} {NC : List Value} {AV : Option Addr} {p cV : Nat} {V : List Int} {K : List Bool}
theorem MSt.len (h : MSt W wr m gk NC AV p cV V K) : V.length = p := by have := h.vs.1; simpa using this
/-- Blocks that are none of its own are written. -/
theorem MSt.other (h : MSt W wr m gk NC AV p cV V K) {r : Option Nat} (hg : wr.grownBy w' r) (hm : some m ≠ r) (hk : some gk ≠ r) (hv : (Value.slice AV p cV).ownBlock = none ∨ (Value.slice AV p cV).ownBlock ≠ r) (hb : ∀ x, r = some x → W.heap.size ≤ x) : MSt W w' m gk NC AV p cV V K :=
  ⟨below_own h.below hg hb, h.lo, h.lk, grown_blk hg h.box hm, h.vs.kept hg hv, grown_blk hg h.ks hk, h.kl⟩
theorem MSt.grow (h : MSt W wr m gk NC AV p cV V K) (hb : Below wr.heap.size wr w') : MSt W w' m gk NC AV p cV V K :=
  h.other (grown_below none hb) (by simp) (by simp) (by cases (Value.slice AV p cV).ownBlock <;> simp) (fun x e => by cases e)
theorem MSt.drew (h : MSt W wr m gk NC AV p cV V K) : MSt W wr.drew m gk NC AV p cV V K := ⟨h.below.drew, h.lo, h.lk, h.box, h.vs, h.ks, h.kl⟩
/-- The places' own block. -/
theorem MSt.places (h : MSt W wr m gk NC AV p cV V K) (hp : 0 < p) : ∃ gv, AV = some ⟨gv, 0, none⟩ ∧ W.heap.size ≤ gv ∧ gv < wr.heap.size ∧ gv ≠ m ∧ gv ≠ gk ∧ (∀ q, q < p → wr.cell? ⟨gv, q, none⟩ = some (.int .i64 (V.getD q 0))) ∧ (∀ o, wr.frozen? ⟨gv, o, none⟩ = false) := by
  have hl := h.len
  obtain ⟨_, ⟨hv, hn⟩ | ⟨g, cap, cur, hv, hb, hgg, hle, hm, hs, ht⟩⟩ := h.vs
  · omega
  · cases hv
    refine ⟨g, rfl, hb, (Array.getElem?_eq_some_iff.1 hgg).1, fun e => ?_, fun e => ?_, fun q hq => ?_, fun o => by simp [World.frozen?, hgg]⟩
    · rw [e, h.box] at hgg; cases hgg
    · rw [e, h.ks] at hgg; cases hgg
    · have hj : (V.map (Value.int .i64))[q]? = some (.int .i64 (V.getD q 0)) := by
        rw [List.getElem?_map, List.getD_eq_getElem?_getD, List.getElem?_eq_getElem (by omega)]
        rfl
      rw [← ht, List.getElem?_take] at hj
      split at hj
      · rw [cell_of_row wr g q cur 2 (0, 0) hgg]
        simpa using hj
      · cases hj
theorem map_set_int (V : List Int) (q : Nat) (x : Int) : (V.set q x).map (Value.int .i64) = (V.map (Value.int .i64)).set q (.int .i64 x) := by
  rw [List.map_set]
/-- A place is written. -/
theorem MSt.set {gv : Nat} (h : MSt W wr m gk NC (some ⟨gv, 0, none⟩) p cV V K) {q : Nat} (hq : q < p) (x : Int) : MSt W (wr.setCell ⟨gv, q, none⟩ (.int .i64 x)) m gk NC (some ⟨gv, 0, none⟩) p cV (V.set q x) K := by
  obtain ⟨gv', e, h1, h2, h3, h4, _, _⟩ := h.places (by omega)
  cases e
  have hg := set_grown wr gv q (.int .i64 x)
  refine ⟨below_grow h.below hg h1, h.lo, h.lk, grown_blk hg h.box (by simpa using h3.symm), ?_, grown_blk hg h.ks (by simpa using h4.symm), h.kl⟩
  obtain ⟨hl, ⟨hv, hn⟩ | ⟨g, cap, cur, hv, hb, hgg, hle, hm, hs, ht⟩⟩ := h.vs
  · omega
  · cases hv
    refine ⟨by simpa using hl, .inr ⟨gv, cV, cur.setIfInBounds q (.int .i64 x), rfl, hb, set_block hgg, hle, hm, by simpa using hs, ?_⟩⟩
    rw [map_set_int, ← ht, Array.toList_setIfInBounds, List.take_set]
/-- What is kept is written. -/
theorem MSt.keep (h : MSt W wr m gk NC AV p cV V K) (q : Nat) (b : Bool) : MSt W (wr.setCell ⟨gk, q, none⟩ (.bool b)) m gk NC AV p cV V (K.set q b) := by
  have hg := set_grown wr gk q (.bool b)
  have hmk : m ≠ gk := fun e => by have h1 := h.box; rw [e, h.ks] at h1; injection h1 with h1; injection h1 with _ h2 _; exact absurd h2 (by decide)
  refine ⟨below_grow h.below hg h.lk, h.lo, h.lk, grown_blk hg h.box (by simpa using hmk), h.vs.kept hg (own_not h.vs h.ks (by decide)), ?_, by simpa using h.kl⟩
  rw [set_block h.ks, List.map_set]
  simp
theorem MSt.kcell (h : MSt W wr m gk NC AV p cV V K) {q : Nat} (hq : q < p) : wr.cell? ⟨gk, q, none⟩ = some (.bool (K.getD q false)) ∧ (∀ o, wr.frozen? ⟨gk, o, none⟩ = false) ∧ gk < wr.heap.size := by
  refine ⟨?_, fun o => by simp [World.frozen?, h.ks], lt_of_block h.ks⟩
  have := h.kl
  rw [cell_of_row wr gk q _ 4 (0, 0) h.ks]
  simp [List.getElem?_map, List.getD_eq_getElem?_getD, List.getElem?_eq_getElem (show q < K.length by omega)]
end
/-- The machine's own cells. -/
theorem m_cells {wr : World} {m : Nat} {c0 c1 c2 c3 c4 c5 c6 c7 c8 : Value} (h : wr.heap[m]? = some (.cells ([c0, c1, c2, c3, c4, c5, c6] ++ [c7, c8]).toArray 110 (0, 0))) :
    wr.cell? ⟨m, 0, none⟩ = some c0 ∧ wr.cell? ⟨m, 1, none⟩ = some c1 ∧ wr.cell? ⟨m, 2, none⟩ = some c2 ∧ wr.cell? ⟨m, 3, none⟩ = some c3 ∧ wr.cell? ⟨m, 4, none⟩ = some c4 ∧ wr.cell? ⟨m, 5, none⟩ = some c5 ∧ wr.cell? ⟨m, 6, none⟩ = some c6 ∧ wr.cell? ⟨m, 7, none⟩ = some c7 ∧ wr.cell? ⟨m, 8, none⟩ = some c8 := by
  refine ⟨?_, ?_, ?_, ?_, ?_, ?_, ?_, ?_, ?_⟩ <;> simp [World.cell?, h]
/-- slices.Clone of numbers. -/
theorem infoN : (Tryd.prog.info? 2).map (fun i => (i.zero, i.size, i.bytes)) = some (some (.int .i64 0), 1, 8) := by kernel_rfl
theorem own_empty (w : World) : (w.alloc (.cells #[] 2)).ownsRow w.heap.size 2 1 (.slice (some ⟨w.heap.size, 0, none⟩) 0 0) 0 [] :=
  ⟨rfl, .inr ⟨w.heap.size, 0, #[], rfl, Nat.le_refl _, heap_alloc_new _ _, Nat.le_refl _, by decide, rfl, rfl⟩⟩
set_option maxRecDepth 100000 in
theorem clone_any (A : Option Addr) (n c : Nat) (xs : List Int) (w : World) (hx : IntsAt w A n xs) (hn : n ≤ 4000) :
    Calls Tryd.prog 62 #[.slice A n c] w fun r w' => ∃ A' c', r = .returned (.slice A' n c') ∧ w'.ownsRow w.heap.size 2 1 (.slice A' n c') n (xs.map (Value.int .i64)) ∧ Below w.heap.size w w' := by
  obtain ⟨i0, hi0, hz0, hz1, hz2⟩ := info_parts infoN
  rcases A with _ | ad
  · have h0 : n = 0 := by
      rcases Nat.eq_zero_or_pos n with h | h
      · exact h
      · obtain ⟨b, o, e, _⟩ := hx.2 h; cases e
    subst h0
    obtain rfl := hx.zero
    clear hx
    have heq : ∀ w, (binOp .eql 22 (.slice none 0 c) (.slice none 0 0)).run Tryd.prog w = .ok (.bool true) w := fun w => by kernel_rfl
    go_enter Tryd.func62, Tryd.ntmps62
    go_wp2
    go_ret
    exact ⟨none, 0, rfl, World.ownsRow_nil _ _ _ _, Below.refl _ _⟩
  · have HX := Lib.hid hx
    have heq : ∀ w, (binOp .eql 22 (.slice (some ad) n c) (.slice none 0 0)).run Tryd.prog w = .ok (.bool false) w := fun w => by kernel_rfl
    clear hx
    go_enter Tryd.func62, Tryd.ntmps62
    go_wp2_with (at_builtin; refine wpList_append_own _ rfl _ _ 22 rfl w.heap.size 2 i0 (.int .i64 0) 1 8 Tryd.underlying22 hi0 hz0 hz1 hz2 rfl (by decide) _ _ _ rfl (own_empty w) ad n c (xs.map (Value.int .i64)) rfl ?c0 ?c1 ?c2 ?c3 ?c4 ?c5 ?_)
    case c0 => simp [HX.out.1]
    case c1 =>
      intro j u hu
      have hj : j < n := by
        have hh := (List.getElem?_eq_some_iff.1 hu).1
        rw [List.length_map, HX.out.1] at hh
        exact hh
      obtain ⟨b, o, h, hc⟩ := HX.out.2 (by omega)
      have hcj := hc j hj
      rw [Option.some.inj h, add_none, map_get hu]
      exact cell_up ((Below.refl _ _).alloc (Nat.le_refl _) _) hcj
    case c2 => intro u hu; simp at hu; obtain ⟨x, _, rfl⟩ := hu; rfl
    case c3 => unfold maxLen; omega
    case c4 => omega
    case c5 => simp
    intro v' w1 hown hgrow _
    have hb : Below w.heap.size w w1 := below_own ((Below.refl w.heap.size w).alloc (Nat.le_refl _) (.cells #[] 2)) hgrow (fun x e => by simp [Value.ownBlock] at e; omega)
    obtain ⟨A', c', rfl⟩ : ∃ A' c', v' = .slice A' n c' := own_slice' hown
    have HO := Lib.hid hown
    have HB := Lib.hid hb
    clear hown hb hgrow
    go_wp2
    go_ret
    exact ⟨A', c', rfl, HO.out, HB.out⟩
theorem keepN {W0 W1 W2 : World} {b : Nat} {v0 v1 v2 v3 v4 v5 v6 : Value}
    (h : W1.cell? ⟨b, 0, none⟩ = some v0 ∧ W1.cell? ⟨b, 1, none⟩ = some v1 ∧ W1.cell? ⟨b, 2, none⟩ = some v2 ∧ W1.cell? ⟨b, 3, none⟩ = some v3 ∧ W1.cell? ⟨b, 4, none⟩ = some v4 ∧ W1.cell? ⟨b, 5, none⟩ = some v5 ∧ W1.cell? ⟨b, 6, none⟩ = some v6 ∧ Below W0.heap.size W0 W1) (hb : Below W1.heap.size W1 W2) :
    W2.cell? ⟨b, 0, none⟩ = some v0 ∧ W2.cell? ⟨b, 1, none⟩ = some v1 ∧ W2.cell? ⟨b, 2, none⟩ = some v2 ∧ W2.cell? ⟨b, 3, none⟩ = some v3 ∧ W2.cell? ⟨b, 4, none⟩ = some v4 ∧ W2.cell? ⟨b, 5, none⟩ = some v5 ∧ W2.cell? ⟨b, 6, none⟩ = some v6 ∧ Below W0.heap.size W0 W2 :=
  ⟨cell_up hb h.1, cell_up hb h.2.1, cell_up hb h.2.2.1, cell_up hb h.2.2.2.1, cell_up hb h.2.2.2.2.1, cell_up hb h.2.2.2.2.2.1, cell_up hb h.2.2.2.2.2.2.1, below_up h.2.2.2.2.2.2.2 hb⟩
theorem pickN {W0 W1 : World} {b : Nat} {v0 v1 v2 v3 v4 v5 v6 : Value}
    (h : W1.cell? ⟨b, 0, none⟩ = some v0 ∧ W1.cell? ⟨b, 1, none⟩ = some v1 ∧ W1.cell? ⟨b, 2, none⟩ = some v2 ∧ W1.cell? ⟨b, 3, none⟩ = some v3 ∧ W1.cell? ⟨b, 4, none⟩ = some v4 ∧ W1.cell? ⟨b, 5, none⟩ = some v5 ∧ W1.cell? ⟨b, 6, none⟩ = some v6 ∧ Below W0.heap.size W0 W1) : Below W0.heap.size W0 W1 := h.2.2.2.2.2.2.2
theorem infoB : (Tryd.prog.info? 4).map (fun i => (i.zero, i.size, i.bytes)) = some (some (.bool false), 1, 1) := by kernel_rfl
theorem made_bools (n : Nat) : madeCells #[Value.bool false] (n * 1) = ((List.replicate n false).map Value.bool).toArray := by
  unfold madeCells
  apply Array.ext'
  rw [Nat.mul_one]
  apply List.ext_getElem
  · simp
  · intro i h1 h2
    simp [Nat.mod_one]
theorem below_a {w1 w2 : World} (hb : Below w1.drew.heap.size w1.drew w2) (o o' : Obj) : Below w1.heap.size w1 ((w2.alloc o).alloc o') := by
  have h : Below w1.heap.size w1 w2 := (Below.refl w1.heap.size w1).drew.trans hb
  exact (h.alloc h.size _).alloc (by have := h.size; simp; omega) _
theorem below_b {w1 w2 : World} {o : Obj} (hb : Below (w1.alloc o).drew.heap.size (w1.alloc o).drew w2) (o' : Obj) : Below w1.heap.size w1 (w2.alloc o') := by
  have h0 : Below w1.heap.size w1 (w1.alloc o).drew := ((Below.refl w1.heap.size w1).alloc (Nat.le_refl _) o).drew
  have h : Below w1.heap.size w1 w2 := h0.trans (hb.mono h0.size)
  exact h.alloc h.size _
theorem MSt.first {w w2 : World} {AV : Option Addr} {n cV B : Nat} {V : List Int} {c0 c1 c2 c3 c4 c5 c6 : Value} (hb : Below w.heap.size w w2) (hown : w2.ownsRow B 2 1 (.slice AV n cV) n (V.map (Value.int .i64))) (hB : w.heap.size ≤ B) :
    MSt w ((w2.alloc (.cells (Array.replicate n (.bool false)) 4)).alloc (.cells #[c0, c1, c2, c3, c4, c5, c6, .slice AV n cV, .slice (some ⟨w2.heap.size, 0, none⟩) n n] 110)) (w2.heap.size + 1) w2.heap.size [c0, c1, c2, c3, c4, c5, c6] AV n cV V (List.replicate n false) := by
  have h1 := hb.alloc hb.size (.cells (Array.replicate n (.bool false)) 4)
  refine ⟨h1.alloc h1.size _, Nat.le_trans hb.size (Nat.le_succ _), hb.size, heap_alloc2_new w2 _ _, own_base ((hown.alloc _).alloc _) hB, ?_, by simp⟩
  rw [heap_alloc2_old w2 _ _]
  simp
theorem MSt.second {w w1 w2 : World} {AV : Option Addr} {n cV B : Nat} {V : List Int} {c0 c1 c2 c3 c4 c5 c6 : Value} (hb1 : Below w.heap.size w w1) (hb : Below (w1.alloc (.cells (Array.replicate n (.bool false)) 4)).heap.size (w1.alloc (.cells (Array.replicate n (.bool false)) 4)) w2) (hown : w2.ownsRow B 2 1 (.slice AV n cV) n (V.map (Value.int .i64))) (hB : w.heap.size ≤ B) :
    MSt w (w2.alloc (.cells #[c0, c1, c2, c3, c4, c5, c6, .slice AV n cV, .slice (some ⟨w1.heap.size, 0, none⟩) n n] 110)) w2.heap.size w1.heap.size [c0, c1, c2, c3, c4, c5, c6] AV n cV V (List.replicate n false) := by
  have h2 : Below w.heap.size w w2 := below_up (hb1.alloc hb1.size (.cells (Array.replicate n (.bool false)) 4)) hb
  refine ⟨h2.alloc h2.size _, h2.size, hb1.size, heap_alloc_new w2 _, own_base (hown.alloc _) hB, ?_, by simp⟩
  have h3 := grown_blk (grown_below none hb) (heap_alloc_new w1 (.cells (Array.replicate n (.bool false)) 4)) (by simp)
  rw [heap_alloc_old w2 _ (Array.getElem?_eq_some_iff.1 h3).1, h3]
  simp
set_option maxHeartbeats 4000000 in
set_option maxRecDepth 100000 in
theorem new_ok (P : Int) (A1 A2 A3 A4 A5 A6 : Option Addr) (n1 c1 n2 c2 n3 c3 n4 c4 n5 c5 n6 c6 : Nat) (N : NetP) (w : World) (h : NetAt w P A1 A2 A3 A4 A5 A6 n1 c1 n2 c2 n3 c3 n4 c4 n5 c5 n6 c6 N) (hg : HandleAt w) (hj : judgeV N = (0, -1)) :
    Calls Tryd.prog 23 #[.agg #[.int .i64 P, .slice A1 n1 c1, .slice A2 n2 c2, .slice A3 n3 c3, .slice A4 n4 c4, .slice A5 n5 c5, .slice A6 n6 c6]] w fun r w' => ∃ m gk AV cV, r = .returned (.tuple #[.pointer (some ⟨m, 0, none⟩), .nilIface]) ∧
      MSt w w' m gk [.int .i64 P, .slice A1 n1 c1, .slice A2 n2 c2, .slice A3 n3 c3, .slice A4 n4 c4, .slice A5 n5 c5, .slice A6 n6 c6] AV n1 cV N.first (kpV N.keeps (List.replicate n1 false)) := by
  obtain ⟨i0, hi0, hz0, hz1, hz2⟩ := info_parts infoB
  obtain ⟨hpl, hgood⟩ := good_net hj
  have l1 := h.i1.1
  have l4 := h.i4.1
  have b1 := h.b1
  have b4 := h.b4
  have hP : P = (n1 : Int) := by rw [← h.hp, hpl, l1]
  subst hP
  rw [l1] at hgood
  have HK := Lib.hid hgood.keeps
  have H := Lib.hid h
  have HN := Lib.hid (fun w2 => ncells n1 A1 A2 A3 A4 A5 A6 n1 c1 n2 c2 n3 c3 n4 c4 n5 c5 n6 c6 w w2)
  have HB := Lib.hid ((Below.refl w.heap.size w).alloc (Nat.le_refl _) (Obj.cells #[.int .i64 n1, .slice A1 n1 c1, .slice A2 n2 c2, .slice A3 n3 c3, .slice A4 n4 c4, .slice A5 n5 c5, .slice A6 n6 c6] 26))
  have HC := Lib.hid (check_any n1 A1 A2 A3 A4 A5 A6 n1 c1 n2 c2 n3 c3 n4 c4 n5 c5 n6 c6 N (w.alloc (.cells #[.int .i64 n1, .slice A1 n1 c1, .slice A2 n2 c2, .slice A3 n3 c3, .slice A4 n4 c4, .slice A5 n5 c5, .slice A6 n6 c6] 26)) (h.up HB.out) (hg.up HB.out))
  have JJ := Lib.hid hj
  have hmk : ∀ W : World, (Instr.makeSlice 108 (.int .i64 n1) (.int .i64 n1)).run Tryd.prog W = .ok (.slice (some ⟨W.heap.size, 0, none⟩) n1 n1) (W.alloc (.cells ((List.replicate n1 false).map Value.bool).toArray 4)) := fun W => by
    have hr := run_make (P := Tryd.prog) W 108 4 i0 (.bool false) Tryd.underlying108 hi0 hz0 .i64 .i64 n1 n1 (by omega) (Int.le_refl _) (by rw [hz2]; omega) (by omega)
    rw [hr]
    simp only [Int.toNat_natCast, hz1]
    rw [show (Value.bool false).cells = #[Value.bool false] from rfl, made_bools]
  clear h hg hj hpl hgood l1
  go_enter Tryd.func23, Tryd.ntmps23
  go_wp2_with fail
  refine HC.out.mono ?_
  rintro r w1 ⟨v, rfl, herr, hb1⟩
  have hv : v = .nilIface := by
    rw [JJ.out] at herr
    exact herr.nil
  subst hv
  have B1 := Lib.hid hb1
  clear hb1 herr
  obtain ⟨z0, z1, z2, z3, z4, z5, z6⟩ := HN.out w1 B1.out
  have b0 := Lib.hid (Below.refl w1.heap.size w1)
  have HW1 : Hid (w.heap.size ≤ w1.heap.size) := Lib.hid (by have h1 := HB.out.size; have h2 := B1.out.size; omega)
  go_upto_region 4 with fail
  go_cut [5] from 5 to 21 (fun t5 wx => ∃ m gk AV cV, t5 = .pointer (some ⟨m, 0, none⟩) ∧ Below w1.heap.size w1 wx ∧ Hid (MSt w wx m gk [.int .i64 n1, .slice A1 n1 c1, .slice A2 n2 c2, .slice A3 n3 c3, .slice A4 n4 c4, .slice A5 n5 c5, .slice A6 n6 c6] AV n1 cV N.first (List.replicate n1 false)))
  case first =>
    go_region_held3 (fun W => W.cell? ⟨w.heap.size, 0, none⟩ = some (.int .i64 n1) ∧ W.cell? ⟨w.heap.size, 1, none⟩ = some (.slice A1 n1 c1) ∧ W.cell? ⟨w.heap.size, 2, none⟩ = some (.slice A2 n2 c2) ∧ W.cell? ⟨w.heap.size, 3, none⟩ = some (.slice A3 n3 c3) ∧ W.cell? ⟨w.heap.size, 4, none⟩ = some (.slice A4 n4 c4) ∧ W.cell? ⟨w.heap.size, 5, none⟩ = some (.slice A5 n5 c5) ∧ W.cell? ⟨w.heap.size, 6, none⟩ = some (.slice A6 n6 c6) ∧ Below w1.heap.size w1 W)
      ((first | exact ⟨z0, z1, z2, z3, z4, z5, z6, b0.out.drew⟩ | assumption | exact keepN (by assumption) (by assumption) | exact keepN (by assumption) ((Below.refl _ _).alloc (Nat.le_refl _) _)))
      (first | (go_at_call 62; refine (clone_any A1 n1 c1 N.first _ (H.out.i1.up (HB.out.trans ((below_up B1.out (pickN (by assumption))).mono HB.out.size))) (by omega)).mono ?_; rintro r w2 ⟨AV, cV, rfl, hown, hb2⟩))
    all_goals
      go_wp2_with fail
      go_meet
      case rel => first | exact ⟨w2.heap.size + 1, w2.heap.size, AV, cV, rfl, below_a hb2 _ _, Lib.hid (MSt.first (HB.out.trans ((below_up B1.out ((Below.refl w1.heap.size w1).drew.trans hb2)).mono HB.out.size)) hown HW1.out)⟩ | exact ⟨w2.heap.size, w1.heap.size, AV, cV, rfl, below_b hb2 _, Lib.hid (MSt.second (w1 := w1.drew) (HB.out.trans (B1.out.mono HB.out.size)).drew hb2 hown (Nat.le_trans HW1.out (by simp)))⟩ | fail
  case rest =>
    obtain ⟨m, gk, AV, cV, rfl, hbx, M⟩ := hcut
    have d4 := cell_up hbx z4
    clear hbx z0 z1 z2 z3 z4 z5 z6
    go_wp2_with fail
    go_loopw [25] (fun i wr => ∃ (k : Nat) (K : List Bool), k ≤ n4 ∧ i = .int .i64 k ∧ Hid (MSt w wr m gk [.int .i64 n1, .slice A1 n1 c1, .slice A2 n2 c2, .slice A3 n3 c3, .slice A4 n4 c4, .slice A5 n5 c5, .slice A6 n6 c6] AV n1 cV N.first K) ∧ Hid (kpV (N.keeps.drop k) K = kpV N.keeps (List.replicate n1 false))) (fun i _ => n4 - (intOf i).toNat)
    case atStart => exact ⟨0, _, Nat.zero_le _, rfl, M, Lib.hid rfl⟩
    case round =>
      obtain ⟨k, K, hk, rfl, S, F⟩ := hrel
      clear d4 M
      by_cases hlt : k < n4
      · have I := H.out.i4.up S.out.below
        obtain ⟨b, o, rfl, hc⟩ := I.2 (by omega)
        have hck := hc k hlt
        have hd := I.drop_cons hlt
        have hm : N.keeps.getD k 0 ∈ N.keeps := by
          have hkl : k < N.keeps.length := by omega
          rw [List.getD_eq_getElem?_getD, List.getElem?_eq_getElem hkl]
          exact List.getElem_mem hkl
        obtain ⟨q, hq⟩ := Int.eq_ofNat_of_zero_le (HK.out _ hm).1
        have hq2 : q < n1 := by have := (HK.out _ hm).2; omega
        have hq3 : (q : Int) < (n1 : Int) := by omega
        rw [hq] at hck hd
        have F2 : Hid (kpV (N.keeps.drop (k + 1)) (K.set q true) = kpV N.keeps (List.replicate n1 false)) := Lib.hid (by have h := F.out; rw [hd, kpV] at h; exact h)
        obtain ⟨x0, x1, x2, x3, x4, x5, x6, x7, x8⟩ := m_cells S.out.box
        obtain ⟨y0, yf, _⟩ := S.out.kcell hq2
        clear hc I hm hq hd F
        go_wp2_with fail
        go_roundw
        case rel => exact ⟨k + 1, _, by omega, by go_num, Lib.hid (S.out.keep q true), F2⟩
        case measure => simp [intOf]; omega
      · have hd := H.out.i4.drop_end (k := k) (by omega)
        have F2 : Hid (K = kpV N.keeps (List.replicate n1 false)) := Lib.hid (by have h := F.out; rw [hd] at h; exact h)
        go_wp2_with fail
        go_ret2
        exact ⟨m, gk, AV, cV, rfl, by rw [← F2.out]; exact S.out⟩
set_option maxHeartbeats 4000000 in
set_option maxRecDepth 100000 in
theorem new_bad (P : Int) (A1 A2 A3 A4 A5 A6 : Option Addr) (n1 c1 n2 c2 n3 c3 n4 c4 n5 c5 n6 c6 : Nat) (N : NetP) (w : World) (h : NetAt w P A1 A2 A3 A4 A5 A6 n1 c1 n2 c2 n3 c3 n4 c4 n5 c5 n6 c6 N) (hg : HandleAt w) (hj : (judgeV N).1 ≠ 0) :
    Calls Tryd.prog 23 #[.agg #[.int .i64 P, .slice A1 n1 c1, .slice A2 n2 c2, .slice A3 n3 c3, .slice A4 n4 c4, .slice A5 n5 c5, .slice A6 n6 c6]] w fun r w' => ∃ v, r = .returned (.tuple #[.pointer none, v]) ∧ ErrAt w' v (judgeV N).1 (judgeV N).2 ∧ v ≠ .nilIface ∧ Below w.heap.size w w' := by
  have H := Lib.hid h
  have HN := Lib.hid (fun w2 => ncells P A1 A2 A3 A4 A5 A6 n1 c1 n2 c2 n3 c3 n4 c4 n5 c5 n6 c6 w w2)
  have HB := Lib.hid ((Below.refl w.heap.size w).alloc (Nat.le_refl _) (Obj.cells #[.int .i64 P, .slice A1 n1 c1, .slice A2 n2 c2, .slice A3 n3 c3, .slice A4 n4 c4, .slice A5 n5 c5, .slice A6 n6 c6] 26))
  have HC := Lib.hid (check_any P A1 A2 A3 A4 A5 A6 n1 c1 n2 c2 n3 c3 n4 c4 n5 c5 n6 c6 N (w.alloc (.cells #[.int .i64 P, .slice A1 n1 c1, .slice A2 n2 c2, .slice A3 n3 c3, .slice A4 n4 c4, .slice A5 n5 c5, .slice A6 n6 c6] 26)) (h.up HB.out) (hg.up HB.out))
  have JJ := Lib.hid hj
  clear h hg hj
  go_enter Tryd.func23, Tryd.ntmps23
  go_wp2_with fail
  refine HC.out.mono ?_
  rintro r w1 ⟨v, rfl, herr, hb1⟩
  have B1 := Lib.hid (HB.out.trans (hb1.mono HB.out.size))
  have E := Lib.hid herr
  rcases herr with ⟨_, j1, _⟩ | ⟨rfl, j1, j2⟩ | ⟨eb, rfl, j1, j2, j3⟩
  · exact absurd j1 JJ.out
  · clear hb1 j1 j2
    go_wp2_with fail
    go_ret2
    exact ⟨_, rfl, E.out, (fun e => by cases e), B1.out⟩
  · clear hb1 j1 j2 j3
    go_wp2_with fail
    go_ret2
    exact ⟨_, rfl, E.out, (fun e => by cases e), B1.out⟩
end Go.Proofs.YtgglbjniclkkpaaDoor

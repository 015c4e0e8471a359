/-
  ref.NewMachine: the reference's code ahead of its first tick; its map.
-/
import Derived.Test.YtgglbjniclkkpaaDoorCoded
import Derived.Test.YtgglbjniclkkpaaDoorImagePlain
import Derived.Maps.Own
import Derived.Maps.OwnOps
import Derived.Maps.Views
namespace Go.Proofs.YtgglbjniclkkpaaDoor
open Go.RowKit
set_option linter.unusedVariables false

theorem okN_is {n : Int} (h : okN n) : (Lit.int .i64 n).wf = true := by
  unfold okN at h
  simp [Lit.wf, IntKind.min, IntKind.max, IntKind.signed, IntKind.bits]
  omega
theorem K3 : Go.Maps.Keyed Tryd.prog 3 := Go.Maps.int_keyed (q := .i64) Tryd.underlying3
theorem zero2 (w : World) : (zeroValue 2).run Tryd.prog w = .ok (.int .i64 0) w := by kernel_rfl
theorem key3 {q : Nat} (hq : q ≤ 4000) : keyOf Tryd.prog 3 (.int .i64 (q : Int)) = some (.int .i64 q) := by
  have h : (Lit.int .i64 (q : Int)).wf = true := okN_is (okN_nat (by omega))
  simp [keyOf, mapKey, Tryd.underlying3, h]
/-- The map at b says of each place what V says. -/
def MapAt (w : World) (b n p : Nat) (V : List Int) : Prop :=
  ∃ D : DataW Unit, w.ownsMap Tryd.prog 3 (plainElem Tryd.prog 2) b n D ∧ Go.Maps.IsMap D ∧ ∀ q : Nat, q < p → D.atKey (.int .i64 (q : Int)) (.lit (.int .i64 0)) = .lit (.int .i64 (V.getD q 0))
section
variable {w w' : World} {b n p : Nat} {V : List Int}
theorem MapAt.lt (h : MapAt w b n p V) : b < w.heap.size := by obtain ⟨D, h, _⟩ := h; exact h.lt
theorem MapAt.kept (h : MapAt w b n p V) {r : Option Nat} (hg : w.grownBy w' r) (hne : some b ≠ r) : MapAt w' b n p V := by
  obtain ⟨D, h1, h2, h3⟩ := h
  exact ⟨D, h1.kept hg hne, h2, h3⟩
set_option maxRecDepth 100000 in
theorem MapAt.look (h : MapAt w b n p V) {q : Nat} (hq : q < p) (hp : p ≤ 4000) : (Instr.lookup 117 (.map (some b)) (.int .i64 q) false).run Tryd.prog w = .ok (.int .i64 (V.getD q 0)) w := by
  obtain ⟨D, h1, _, h3⟩ := h
  obtain ⟨c, hrun, hat, _⟩ := h1.lookup_int K3 Tryd.underlying117 Tryd.underlying2 (zero2 w) (key3 (q := q) (by omega))
  rw [h3 q hq] at hat
  injection hat with hat
  injection hat with _ hat
  rw [hrun, hat]
set_option maxRecDepth 100000 in
theorem MapAt.update (h : MapAt w b n p V) (hl : V.length = p) {q : Nat} (hq : q < p) (hp : p ≤ 4000) (hn : n ≤ 100000) {x : Int} (hx : okN x) :
    ∃ w', (Instr.mapUpdate 117 (.map (some b)) (.int .i64 q) (.int .i64 x)).run Tryd.prog w = .ok () w' ∧ MapAt w' b (n + 1) p (V.set q x) ∧ w.grownBy w' (some b) := by
  obtain ⟨D, h1, h2, h3⟩ := h
  obtain ⟨w', hrun, h4, hg⟩ := h1.update K3 Tryd.underlying117 (by unfold maxLen; omega) (key3 (q := q) (by omega)) (plainElem_int Tryd.underlying2 (okN_is hx))
  refine ⟨w', hrun, ⟨_, h4, Go.Maps.IsMap.put h2 _ _, fun j hj => ?_⟩, hg⟩
  by_cases e : j = q
  · subst e
    rw [Go.Maps.atKey_put_same (k := .int .i64 (j : Int)) h2 (show WideAt.IsKeyLit (.int .i64 (j : Int)) from trivial)]
    rw [List.getD_eq_getElem?_getD, List.getElem?_set_self (by omega)]
    rfl
  · rw [Go.Maps.atKey_put_other (by intro h; injection h with _ h; omega), h3 j hj, List.getD_eq_getElem?_getD, List.getD_eq_getElem?_getD, List.getElem?_set_ne (fun h => e h.symm)]
theorem MapAt.made (w : World) (p : Nat) : MapAt (w.alloc (.map #[] 0)) w.heap.size 0 p (List.replicate p 0) :=
  ⟨.map [], World.ownsMap_made w Tryd.prog 3 _, ⟨[], rfl⟩, fun q hq => by
    show _ = DataW.lit (Lit.int .i64 ((List.replicate p (0 : Int)).getD q 0))
    rw [List.getD_eq_getElem?_getD, List.getElem?_replicate]
    split <;> rfl⟩
end
/-- The reference's machine as it lies in memory. -/
structure RMs (W wr : World) (m b n : Nat) (NC : List Value) (p : Nat) (V : List Int) : Prop where
  below : Below W.heap.size W wr
  lo : W.heap.size ≤ m
  lb : W.heap.size ≤ b
  box : wr.heap[m]? = some (.cells (NC ++ [Value.map (some b)]).toArray 119 (0, 0))
  map : MapAt wr b n p V
  len : V.length = p
  ok : ∀ x ∈ V, okN x
theorem MapAt.not_cells {w : World} {b n p m : Nat} {V : List Int} {C : Array Value} {T : TypeId} (h : MapAt w b n p V) (hm : w.heap[m]? = some (.cells C T (0, 0))) : m ≠ b := by
  rintro rfl
  obtain ⟨D, ⟨es, cl, h1, _⟩, _⟩ := h
  rw [h1] at hm
  cases hm
section
variable {W wr w' : World} {m b n p : Nat} {NC : List Value} {V : List Int}
theorem RMs.other (h : RMs W wr m b n NC p V) {r : Option Nat} (hg : wr.grownBy w' r) (hm : some m ≠ r) (hb : some b ≠ r) (hx : ∀ x, r = some x → W.heap.size ≤ x) : RMs W w' m b n NC p V :=
  ⟨below_own h.below hg hx, h.lo, h.lb, grown_blk hg h.box hm, h.map.kept hg hb, h.len, h.ok⟩
theorem RMs.grow (h : RMs W wr m b n NC p V) (hb : Below wr.heap.size wr w') : RMs W w' m b n NC p V := h.other (grown_below none hb) (by simp) (by simp) (fun x e => by cases e)
theorem RMs.drew (h : RMs W wr m b n NC p V) : RMs W wr.drew m b n NC p V := ⟨h.below.drew, h.lo, h.lb, h.box, h.map, h.len, h.ok⟩
theorem okN_set {V : List Int} {q : Nat} {x : Int} (h : ∀ y ∈ V, okN y) (hx : okN x) : ∀ y ∈ V.set q x, okN y := fun y hy => by
  rcases List.mem_or_eq_of_mem_set hy with h1 | h1
  · exact h y h1
  · rw [h1]; exact hx
/-- An entry is written. -/
theorem RMs.update (h : RMs W wr m b n NC p V) {q : Nat} (hq : q < p) (hp : p ≤ 4000) (hn : n ≤ 100000) {x : Int} (hx : okN x) :
    ∃ w', (Instr.mapUpdate 117 (.map (some b)) (.int .i64 q) (.int .i64 x)).run Tryd.prog wr = .ok () w' ∧ RMs W w' m b (n + 1) NC p (V.set q x) ∧ wr.grownBy w' (some b) := by
  obtain ⟨w', hrun, hm, hg⟩ := h.map.update h.len hq hp hn hx
  exact ⟨w', hrun, ⟨below_grow h.below hg h.lb, h.lo, h.lb, grown_blk hg h.box (by simpa using h.map.not_cells h.box), hm, by simpa using h.len, okN_set h.ok hx⟩, hg⟩
end
/-- The reference's machine's own cells. -/
theorem r_cells {wr : World} {m : Nat} {c0 c1 c2 c3 c4 c5 c6 c7 : Value} (h : wr.heap[m]? = some (.cells ([c0, c1, c2, c3, c4, c5, c6] ++ [c7]).toArray 119 (0, 0))) :
    wr.cell? ⟨m, 0, none⟩ = some c0 ∧ wr.cell? ⟨m, 1, none⟩ = some c1 ∧ wr.cell? ⟨m, 2, none⟩ = some c2 ∧ wr.cell? ⟨m, 3, none⟩ = some c3 ∧ wr.cell? ⟨m, 4, none⟩ = some c4 ∧ wr.cell? ⟨m, 5, none⟩ = some c5 ∧ wr.cell? ⟨m, 6, none⟩ = some c6 ∧ wr.cell? ⟨m, 7, none⟩ = some c7 := by
  refine ⟨?_, ?_, ?_, ?_, ?_, ?_, ?_, ?_⟩ <;> simp [World.cell?, h]
set_option maxHeartbeats 4000000 in
set_option maxRecDepth 100000 in
theorem newRef_any (A1 A2 A3 A4 A5 A6 : Option Addr) (n1 c1 n2 c2 n3 c3 n4 c4 n5 c5 n6 c6 : Nat) (N : NetP) (w : World) (h : NetAt w n1 A1 A2 A3 A4 A5 A6 n1 c1 n2 c2 n3 c3 n4 c4 n5 c5 n6 c6 N) (hok : ∀ x ∈ N.first, okN x) :
    Calls Tryd.prog 33 #[.agg #[.int .i64 n1, .slice A1 n1 c1, .slice A2 n2 c2, .slice A3 n3 c3, .slice A4 n4 c4, .slice A5 n5 c5, .slice A6 n6 c6]] w fun r w' => ∃ m b n, n ≤ 300 ∧ r = .returned (.pointer (some ⟨m, 0, none⟩)) ∧
      RMs w w' m b n [.int .i64 n1, .slice A1 n1 c1, .slice A2 n2 c2, .slice A3 n3 c3, .slice A4 n4 c4, .slice A5 n5 c5, .slice A6 n6 c6] n1 N.first := by
  have l1 := h.i1.1
  have b1 := h.b1
  have H := Lib.hid h
  have HO := Lib.hid hok
  have HB := Lib.hid ((Below.refl w.heap.size w).alloc (Nat.le_refl _) (Obj.cells #[.int .i64 n1, .slice A1 n1 c1, .slice A2 n2 c2, .slice A3 n3 c3, .slice A4 n4 c4, .slice A5 n5 c5, .slice A6 n6 c6] 26))
  clear h hok
  have hmk : ∀ W : World, (Instr.makeMap 117 none).run Tryd.prog W = .ok (.map (some W.heap.size)) (W.alloc (.map #[] 0)) := fun W => by kernel_rfl
  have HN := Lib.hid (heap_alloc_new w (Obj.cells #[.int .i64 n1, .slice A1 n1 c1, .slice A2 n2 c2, .slice A3 n3 c3, .slice A4 n4 c4, .slice A5 n5 c5, .slice A6 n6 c6] 26))
  have HM := Lib.hid (MapAt.made (w.alloc (Obj.cells #[.int .i64 n1, .slice A1 n1 c1, .slice A2 n2 c2, .slice A3 n3 c3, .slice A4 n4 c4, .slice A5 n5 c5, .slice A6 n6 c6] 26)) n1)
  go_enter Tryd.func33, Tryd.ntmps33
  go_upto_region 2 with fail
  obtain ⟨m, hm⟩ : ∃ m, m = w.heap.size + 1 + 1 := ⟨_, rfl⟩
  obtain ⟨b, hb⟩ : ∃ b, b = w.heap.size + 1 := ⟨_, rfl⟩
  obtain ⟨W0, hW0⟩ : ∃ X, X = ((w.alloc (Obj.cells #[.int .i64 n1, .slice A1 n1 c1, .slice A2 n2 c2, .slice A3 n3 c3, .slice A4 n4 c4, .slice A5 n5 c5, .slice A6 n6 c6] 26)).alloc (.map #[] 0)).alloc (.cells #[.int .i64 n1, .slice A1 n1 c1, .slice A2 n2 c2, .slice A3 n3 c3, .slice A4 n4 c4, .slice A5 n5 c5, .slice A6 n6 c6, .map (some (w.heap.size + 1))] 119) := ⟨_, rfl⟩
  have S0 : Hid (RMs w W0 m b 0 [.int .i64 n1, .slice A1 n1 c1, .slice A2 n2 c2, .slice A3 n3 c3, .slice A4 n4 c4, .slice A5 n5 c5, .slice A6 n6 c6] n1 (List.replicate n1 0)) := by
    apply Lib.hid
    refine ⟨?_, by omega, by omega, ?_, ?_, by simp, fun x hx => by rw [(List.mem_replicate.1 hx).2]; exact okN_nat (n := 0) (by decide)⟩
    · rw [hW0]; exact (HB.out.alloc (by simp) _).alloc (by simp; omega) _
    · rw [hW0, hm, hb]; exact heap_alloc_new ((w.alloc (Obj.cells #[.int .i64 n1, .slice A1 n1 c1, .slice A2 n2 c2, .slice A3 n3 c3, .slice A4 n4 c4, .slice A5 n5 c5, .slice A6 n6 c6] 26)).alloc (.map #[] 0)) _ |>.trans rfl |> (fun h => by simpa using h)
    · rw [hW0, hb]
      have h := HM.out.kept (World.grownBy_alloc _ (.cells #[.int .i64 n1, .slice A1 n1 c1, .slice A2 n2 c2, .slice A3 n3 c3, .slice A4 n4 c4, .slice A5 n5 c5, .slice A6 n6 c6, .map (some (w.heap.size + 1))] 119) none) (by simp)
      simpa using h
  have hx0 : W0.heap[w.heap.size]? = some (.cells #[.int .i64 n1, .slice A1 n1 c1, .slice A2 n2 c2, .slice A3 n3 c3, .slice A4 n4 c4, .slice A5 n5 c5, .slice A6 n6 c6] 26 (0, 0)) := by
    rw [hW0]
    exact grown_blk (World.grownBy_alloc _ _ none) (grown_blk (World.grownBy_alloc _ _ none) HN.out (by simp)) (by simp)
  rw [← hm, ← hW0, ← hb]
  clear hW0 hm hb HN HM
  obtain ⟨z0, z1, z2, z3, z4, z5, z6⟩ := net_cells hx0
  clear hx0
  go_wp2_with fail
  clear z0 z1 z2 z3 z4 z5 z6
  go_loopw [13] (fun i wr => ∃ (k : Nat) (V : List Int), k ≤ n1 ∧ i = .int .i64 k ∧ Hid (RMs w wr m b k [.int .i64 n1, .slice A1 n1 c1, .slice A2 n2 c2, .slice A3 n3 c3, .slice A4 n4 c4, .slice A5 n5 c5, .slice A6 n6 c6] n1 V) ∧ Hid (∀ j, j < k → V.getD j 0 = N.first.getD j 0)) (fun i _ => n1 - (intOf i).toNat)
  case atStart => exact ⟨0, _, Nat.zero_le _, rfl, S0, Lib.hid (fun j hj => by omega)⟩
  case round =>
    obtain ⟨k, V, hk, rfl, S, F⟩ := hrel
    clear S0
    by_cases hlt : k < n1
    · have I := H.out.i1.up S.out.below
      obtain ⟨bb, o, rfl, hc⟩ := I.2 (by omega)
      have hck := hc k hlt
      have hx : okN (N.first.getD k 0) := HO.out _ (getD_mem (by omega))
      obtain ⟨x, hxe⟩ : ∃ x, x = N.first.getD k 0 := ⟨_, rfl⟩
      rw [← hxe] at hck hx
      obtain ⟨w', hrun, hS', hg⟩ := S.out.update hlt (by omega) (by omega) hx
      have S' := Lib.hid hS'
      have hkk : k < V.length := by rw [S.out.len]; exact hlt
      have F' : Hid (∀ j, j < k + 1 → (V.set k x).getD j 0 = N.first.getD j 0) := Lib.hid fun j hj => by
        by_cases e : j = k
        · subst e
          rw [List.getD_eq_getElem?_getD, List.getElem?_set_self hkk, ← hxe]; rfl
        · rw [List.getD_eq_getElem?_getD, List.getElem?_set_ne (fun h => e h.symm), ← List.getD_eq_getElem?_getD]
          exact F.out j (by omega)
      obtain ⟨y0, y1, y2, y3, y4, y5, y6, y7⟩ := r_cells S.out.box
      clear hc I hx hxe hS' hg hkk F
      go_wp2_with fail
      go_roundw
      case rel => exact ⟨k + 1, _, by omega, by go_num, S', F'⟩
      case measure => simp [intOf]; omega
    · have hkn : k = n1 := by omega
      subst hkn
      have hV : V = N.first := by
        apply List.ext_getElem
        · rw [S.out.len, l1]
        · intro j h1 h2
          have h := F.out j (by rw [S.out.len] at h1; exact h1)
          rw [List.getD_eq_getElem?_getD, List.getD_eq_getElem?_getD, List.getElem?_eq_getElem h1, List.getElem?_eq_getElem h2] at h
          exact h
      rw [hV] at S
      go_wp2_with fail
      go_ret
      exact ⟨m, b, k, b1, rfl, S.out⟩
end Go.Proofs.YtgglbjniclkkpaaDoor

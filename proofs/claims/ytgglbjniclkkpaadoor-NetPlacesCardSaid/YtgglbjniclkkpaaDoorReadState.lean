/-
  THE STATE OF READING CODE: the reader, the code under way, its lists, the step under way.
-/
import Derived.Test.YtgglbjniclkkpaaDoorNarrow
import Derived.Test.YtgglbjniclkkpaaDoorCodePlain
import Derived.Test.YtgglbjniclkkpaaDoorCheckL
namespace Go.Proofs.YtgglbjniclkkpaaDoor
open Go.RowKit
set_option linter.unusedVariables false

theorem own_kind' {w : World} {B sz : Nat} {e : TypeId} {v : Value} {n : Nat} {xs : List Value} (h : w.ownsRow B e sz v n xs) : ∀ g, v.ownBlock = some g → ∃ c, w.heap[g]? = some (.cells c e (0, 0)) := by
  intro g hg
  rcases h.2 with ⟨rfl, _⟩ | ⟨g', cap, cur, rfl, _, hgg, _⟩
  · simp [Value.ownBlock] at hg
  · simp [Value.ownBlock] at hg
    subst hg
    exact ⟨cur, hgg⟩
theorem own_not {w : World} {B sz : Nat} {e T : TypeId} {v : Value} {n x : Nat} {xs : List Value} {c : Array Value} (h : w.ownsRow B e sz v n xs) (hx : w.heap[x]? = some (.cells c T (0, 0))) (ht : e ≠ T) : v.ownBlock = none ∨ v.ownBlock ≠ some x := by
  right
  intro hh
  obtain ⟨c', h2⟩ := own_kind' h x hh
  rw [hx] at h2
  cases h2
  exact ht rfl
theorem own_lt' {w : World} {B sz : Nat} {e : TypeId} {v : Value} {n : Nat} {xs : List Value} (h : w.ownsRow B e sz v n xs) : ∀ g, v.ownBlock = some g → B ≤ g ∧ g < w.heap.size := by
  intro g hg
  rcases h.2 with ⟨rfl, _⟩ | ⟨g', cap, cur, rfl, hb, hgg, _⟩
  · simp [Value.ownBlock] at hg
  · simp [Value.ownBlock] at hg
    subst hg
    exact ⟨hb, (Array.getElem?_eq_some_iff.1 hgg).1⟩
theorem own_base {w : World} {B B' sz : Nat} {e : TypeId} {v : Value} {n : Nat} {xs : List Value} (h : w.ownsRow B e sz v n xs) (hb : B' ≤ B) : w.ownsRow B' e sz v n xs := by
  refine ⟨h.1, ?_⟩
  rcases h.2 with h | ⟨g, cap, cur, e1, e2, e3⟩
  · exact .inl h
  · exact .inr ⟨g, cap, cur, e1, Nat.le_trans hb e2, e3⟩
theorem set_block {w : World} {g i : Nat} {cs : Array Value} {T : TypeId} {v : Value} (h : w.heap[g]? = some (.cells cs T (0, 0))) : (w.setCell ⟨g, i, none⟩ v).heap[g]? = some (.cells (cs.setIfInBounds i v) T (0, 0)) := by
  obtain ⟨hlt, h'⟩ := Array.getElem?_eq_some_iff.1 h
  show (w.heap.modify g _)[g]? = _
  rw [Array.getElem?_eq_getElem (by simpa using hlt), Array.getElem_modify_self, h']
  rfl
theorem set_grown (w : World) (g i : Nat) (v : Value) : w.grownBy (w.setCell ⟨g, i, none⟩ v) (some g) := grown_set (grown_refl w _) v
theorem grown_blk {w w' : World} {r : Option Nat} {g : Nat} {o : Obj} (h : w.grownBy w' r) (hb : w.heap[g]? = some o) (hr : some g ≠ r) : w'.heap[g]? = some o :=
  (h.block g (Array.getElem?_eq_some_iff.1 hb).1 hr).trans hb
theorem grown_cell {w w' : World} {r : Option Nat} {b o : Nat} {v : Value} (h : w.grownBy w' r) (hc : w.cell? ⟨b, o, none⟩ = some v) (hr : some b ≠ r) : w'.cell? ⟨b, o, none⟩ = some v := by
  have hlt := World.block_lt_of_cell? w _ hc
  unfold World.cell? at *
  rw [h.block b hlt hr]
  exact hc
theorem below_grow {w wr w' : World} {x : Nat} (h : Below w.heap.size w wr) (hg : wr.grownBy w' (some x)) (hx : w.heap.size ≤ x) : Below w.heap.size w w' :=
  h.trans (below_grown hg hx h.size)
theorem below_own {w wr w' : World} {r : Option Nat} (h : Below w.heap.size w wr) (hg : wr.grownBy w' r) (hx : ∀ x, r = some x → w.heap.size ≤ x) : Below w.heap.size w w' := by
  rcases r with _ | x
  · exact ⟨hg.os.trans h.os, hg.tape.trans h.tape, hg.output.trans h.output, Nat.le_trans h.size hg.size, fun k hk => (hg.block k (Nat.lt_of_lt_of_le hk h.size) (by simp)).trans (h.block k hk)⟩
  · exact below_grow h hg (hx x rfl)

/-- A list of numbers that is read. -/
structure RowD where
  e : TypeId
  v : Value
  n : Nat
  xs : List Value
/-- While code is read. -/
structure RdS (w wr : World) (a : Nat) (T : TypeId) (t : ByteArray) (b : Bool) (RB : List (Nat × Array Value × TypeId)) (g : Nat) (cs : Array Value) (L : List RowD) (cv : Value) (k : Nat) (xs : List Value) : Prop where
  below : Below w.heap.size w wr
  lo : w.heap.size ≤ a
  ag : a < g
  tt : T ≠ 26 ∧ T ≠ 2 ∧ T ≠ 3 ∧ T ≠ 31
  rd : RdAt wr a T t b
  res : ∀ q ∈ RB, wr.heap[q.1]? = some (.cells q.2.1 q.2.2 (0, 0)) ∧ q.1 < a ∧ (q.2.2 = 26 ∨ q.2.2 = 38)
  net : wr.heap[g]? = some (.cells cs 26 (0, 0))
  rows : ∀ q ∈ L, wr.ownsRow w.heap.size q.e 1 q.v q.n q.xs ∧ (q.e = 2 ∨ q.e = 3)
  code : wr.ownsRow w.heap.size 31 5 cv k xs
section
variable {w wr w' : World} {a : Nat} {T : TypeId} {t t' : ByteArray} {b b' : Bool} {RB : List (Nat × Array Value × TypeId)} {g : Nat} {cs : Array Value} {L : List RowD} {cv : Value} {k : Nat} {xs : List Value}
theorem RdS.read (h : RdS w wr a T t b RB g cs L cv k xs) (hr : RdAt w' a T t' b') (hg : wr.grownBy w' (some a)) : RdS w w' a T t' b' RB g cs L cv k xs := by
  obtain ⟨h1, h2, h3, ⟨t1, t2, t3, t4⟩, h5, h6, h7, h8, h9⟩ := h
  refine ⟨below_grow h1 hg h2, h2, h3, ⟨t1, t2, t3, t4⟩, hr, fun q hq => ?_, grown_blk hg h7 (by simp; omega), fun q hq => ?_, h9.kept hg (own_not h9 h5 (fun e => t4 e.symm))⟩
  · obtain ⟨q1, q2, q3⟩ := h6 q hq
    exact ⟨grown_blk hg q1 (by simp; omega), q2, q3⟩
  · obtain ⟨q1, q2⟩ := h8 q hq
    exact ⟨q1.kept hg (own_not q1 h5 (by rcases q2 with e | e <;> rw [e] <;> first | exact fun e => t2 e.symm | exact fun e => t3 e.symm)), q2⟩
theorem RdS.set (h : RdS w wr a T t b RB g cs L cv k xs) (i : Nat) (v : Value) : RdS w (wr.setCell ⟨g, i, none⟩ v) a T t b RB g (cs.setIfInBounds i v) L cv k xs := by
  obtain ⟨h1, h2, h3, ht, h5, h6, h7, h8, h9⟩ := h
  have hg := set_grown wr g i v
  refine ⟨below_grow h1 hg (by omega), h2, h3, ht, grown_blk hg h5 (by simp; omega), fun q hq => ?_, set_block h7, fun q hq => ?_, h9.kept hg (own_not h9 h7 (by decide))⟩
  · obtain ⟨q1, q2, q3⟩ := h6 q hq
    exact ⟨grown_blk hg q1 (by simp; omega), q2, q3⟩
  · obtain ⟨q1, q2⟩ := h8 q hq
    exact ⟨q1.kept hg (own_not q1 h7 (by rcases q2 with e | e <;> rw [e] <;> decide)), q2⟩
theorem RdS.row (h : RdS w wr a T t b RB g cs L cv k xs) {e : TypeId} {v : Value} {n : Nat} {ys : List Value} {B : Nat} (hr : wr.ownsRow B e 1 v n ys) (hB : w.heap.size ≤ B) (he : e = 2 ∨ e = 3) : RdS w wr a T t b RB g cs (L ++ [⟨e, v, n, ys⟩]) cv k xs :=
  ⟨h.below, h.lo, h.ag, h.tt, h.rd, h.res, h.net, fun q hq => by
    rcases List.mem_append.1 hq with hq | hq
    · exact h.rows q hq
    · have := List.mem_singleton.1 hq
      subst this
      exact ⟨own_base hr hB, he⟩, h.code⟩
theorem RdS.grow (h : RdS w wr a T t b RB g cs L cv k xs) (hb : Below wr.heap.size wr w') : RdS w w' a T t b RB g cs L cv k xs := by
  have hg := grown_below none hb
  refine ⟨below_up h.below hb, h.lo, h.ag, h.tt, grown_blk hg h.rd (by simp), fun q hq => ?_, grown_blk hg h.net (by simp), fun q hq => ?_, h.code.kept hg ?_⟩
  · obtain ⟨q1, q2, q3⟩ := h.res q hq
    exact ⟨grown_blk hg q1 (by simp), q2, q3⟩
  · obtain ⟨q1, q2⟩ := h.rows q hq
    exact ⟨q1.kept hg (by cases q.v.ownBlock <;> simp), q2⟩
  · cases cv.ownBlock <;> simp
theorem RdS.drew (h : RdS w wr a T t b RB g cs L cv k xs) : RdS w wr.drew a T t b RB g cs L cv k xs :=
  ⟨h.below.drew, h.lo, h.ag, h.tt, h.rd, h.res, h.net, h.rows, h.code⟩
/-- A step more. -/
theorem RdS.more (h : RdS w wr a T t b RB g cs L cv k xs) {cv' : Value} {k' : Nat} {xs' : List Value} (hg : wr.grownBy w' cv.ownBlock) (hown : w'.ownsRow w.heap.size 31 5 cv' k' xs') : RdS w w' a T t b RB g cs L cv' k' xs' := by
  obtain ⟨h1, h2, h3, ⟨t1, t2, t3, t4⟩, h5, h6, h7, h8, h9⟩ := h
  have hne : ∀ x c T', wr.heap[x]? = some (.cells c T' (0, 0)) → (31 : TypeId) ≠ T' → some x ≠ cv.ownBlock := fun x c T' hx hT e => by
    rcases own_not h9 hx hT with h | h
    · rw [h] at e; cases e
    · exact h e.symm
  refine ⟨below_own h1 hg (fun x e => (own_lt' h9 x e).1), h2, h3, ⟨t1, t2, t3, t4⟩, grown_blk hg h5 (hne _ _ _ h5 (fun e => t4 e.symm)), fun q hq => ?_, grown_blk hg h7 (hne _ _ _ h7 (by decide)), fun q hq => ?_, hown⟩
  · obtain ⟨q1, q2, q3⟩ := h6 q hq
    exact ⟨grown_blk hg q1 (hne _ _ _ q1 (by rcases q3 with e | e <;> rw [e] <;> decide)), q2, q3⟩
  · obtain ⟨q1, q2⟩ := h8 q hq
    refine ⟨q1.kept hg ?_, q2⟩
    rcases hv : q.v.ownBlock with _ | y
    · exact .inl rfl
    · right
      obtain ⟨c, hc⟩ := own_kind' q1 y hv
      exact hne _ _ _ hc (by rcases q2 with e | e <;> rw [e] <;> decide)
/-- Another block is written. -/
theorem RdS.other (h : RdS w wr a T t b RB g cs L cv k xs) {x : Nat} (hg : wr.grownBy w' (some x)) (hx : g < x) (hrl : ∀ q ∈ L, ∀ y, q.v.ownBlock = some y → y < x) (hcl : ∀ y, cv.ownBlock = some y → y < x) : RdS w w' a T t b RB g cs L cv k xs := by
  obtain ⟨h1, h2, h3, ht, h5, h6, h7, h8, h9⟩ := h
  refine ⟨below_grow h1 hg (by omega), h2, h3, ht, grown_blk hg h5 (by simp; omega), fun q hq => ?_, grown_blk hg h7 (by simp; omega), fun q hq => ?_, h9.kept hg (.inr fun e => by have := hcl _ e; omega)⟩
  · obtain ⟨q1, q2, q3⟩ := h6 q hq
    exact ⟨grown_blk hg q1 (by simp; omega), q2, q3⟩
  · obtain ⟨q1, q2⟩ := h8 q hq
    exact ⟨q1.kept hg (.inr fun e => by have := hrl q hq _ e; omega), q2⟩
end
theorem RdS.of_parts {w w1 : World} {a : Nat} {T : TypeId} {t : ByteArray} {b : Bool} {z : Nat} {ZC : Array Value} {ZT : TypeId} (tt : T ≠ 26 ∧ T ≠ 2 ∧ T ≠ 3 ∧ T ≠ 31) (hb : Below w.heap.size w w1) (ha : w.heap.size ≤ a) (hr : RdAt w1 a T t b) (hz : w1.heap[z]? = some (.cells ZC ZT (0, 0))) (hza : z < a) (hzt : ZT = 26 ∨ ZT = 38) (cs : Array Value) :
    RdS w (w1.alloc (.cells cs 26)) a T t b [(z, ZC, ZT)] w1.heap.size cs [] (.slice none 0 0) 0 [] := by
  refine ⟨hb.alloc hb.size _, ha, hr.lt, tt, hr.up ((Below.refl _ _).alloc (Nat.le_refl _) _), fun q hq => ?_, heap_alloc_new _ _, (fun q hq => by cases hq), World.ownsRow_nil _ _ _ _⟩
  have := List.mem_singleton.1 hq
  subst this
  exact ⟨(heap_alloc_old w1 _ (Array.getElem?_eq_some_iff.1 hz).1).trans hz, hza, hzt⟩
/-- A step's cells. -/
def stpC (s : Stp) : List Value := [.int .i64 s.c, .int .i64 s.d, .int .i64 s.a, .int .i64 s.b, .int .i64 s.e]
/-- While a step is read. -/
structure XdS (w wr : World) (a : Nat) (T : TypeId) (t : ByteArray) (b : Bool) (RB : List (Nat × Array Value × TypeId)) (g : Nat) (cs : Array Value) (L : List RowD) (cv : Value) (k : Nat) (xs : List Value) (gx : Nat) (s : Stp) : Prop where
  st : RdS w wr a T t b RB g cs L cv k xs
  x : wr.heap[gx]? = some (.cells (stpC s).toArray 31 (0, 0))
  gg : g < gx
  rl : ∀ q ∈ L, ∀ y, q.v.ownBlock = some y → y < gx
  cl : ∀ y, cv.ownBlock = some y → y < gx
section
variable {w wr w' : World} {a : Nat} {T : TypeId} {t t' : ByteArray} {b b' : Bool} {RB : List (Nat × Array Value × TypeId)} {g gx : Nat} {cs : Array Value} {L : List RowD} {cv : Value} {k : Nat} {xs : List Value} {s : Stp}
theorem XdS.start (h : RdS w wr a T t b RB g cs L cv k xs) (s : Stp) : XdS w (wr.alloc (.cells #[.int .i64 s.c, .int .i64 s.d, .int .i64 s.a, .int .i64 s.b, .int .i64 s.e] 31)) a T t b RB g cs L cv k xs wr.heap.size s :=
  ⟨h.grow ((Below.refl _ _).alloc (Nat.le_refl _) _), heap_alloc_new wr _, (Array.getElem?_eq_some_iff.1 h.net).1, fun q hq y e => (own_lt' (h.rows q hq).1 y e).2, fun y e => (own_lt' h.code y e).2⟩
theorem XdS.read (h : XdS w wr a T t b RB g cs L cv k xs gx s) (hr : RdAt w' a T t' b') (hg : wr.grownBy w' (some a)) : XdS w w' a T t' b' RB g cs L cv k xs gx s :=
  ⟨h.st.read hr hg, grown_blk hg h.x (by have := h.gg; have := h.st.ag; simp; omega), h.gg, h.rl, h.cl⟩
theorem XdS.grow (h : XdS w wr a T t b RB g cs L cv k xs gx s) (hb : Below wr.heap.size wr w') : XdS w w' a T t b RB g cs L cv k xs gx s :=
  ⟨h.st.grow hb, grown_blk (grown_below none hb) h.x (by simp), h.gg, h.rl, h.cl⟩
theorem XdS.drew (h : XdS w wr a T t b RB g cs L cv k xs gx s) : XdS w wr.drew a T t b RB g cs L cv k xs gx s := ⟨h.st.drew, h.x, h.gg, h.rl, h.cl⟩
theorem XdS.setD (h : XdS w wr a T t b RB g cs L cv k xs gx s) (v : Int) : XdS w (wr.setCell ⟨gx, 1, none⟩ (.int .i64 v)) a T t b RB g cs L cv k xs gx { s with d := v } :=
  ⟨h.st.other (set_grown _ _ _ _) h.gg h.rl h.cl, set_block h.x, h.gg, h.rl, h.cl⟩
theorem XdS.setA (h : XdS w wr a T t b RB g cs L cv k xs gx s) (v : Int) : XdS w (wr.setCell ⟨gx, 2, none⟩ (.int .i64 v)) a T t b RB g cs L cv k xs gx { s with a := v } :=
  ⟨h.st.other (set_grown _ _ _ _) h.gg h.rl h.cl, set_block h.x, h.gg, h.rl, h.cl⟩
theorem XdS.setB (h : XdS w wr a T t b RB g cs L cv k xs gx s) (v : Int) : XdS w (wr.setCell ⟨gx, 3, none⟩ (.int .i64 v)) a T t b RB g cs L cv k xs gx { s with b := v } :=
  ⟨h.st.other (set_grown _ _ _ _) h.gg h.rl h.cl, set_block h.x, h.gg, h.rl, h.cl⟩
theorem XdS.setE (h : XdS w wr a T t b RB g cs L cv k xs gx s) (v : Int) : XdS w (wr.setCell ⟨gx, 4, none⟩ (.int .i64 v)) a T t b RB g cs L cv k xs gx { s with e := v } :=
  ⟨h.st.other (set_grown _ _ _ _) h.gg h.rl h.cl, set_block h.x, h.gg, h.rl, h.cl⟩
theorem XdS.setArg (h : XdS w wr a T t b RB g cs L cv k xs gx s) {m : Nat} (hm : m < 3) (v : Int) : XdS w (wr.setCell ⟨gx, m + 2, none⟩ (.int .i64 v)) a T t b RB g cs L cv k xs gx (Proofs.YtgglbjniclkkpaaDoor.setArg s m v) := by
  match m, hm with
  | 0, _ => exact h.setA v
  | 1, _ => exact h.setB v
  | 2, _ => exact h.setE v
end
theorem RdS.out {w wr w' : World} {a : Nat} {T : TypeId} {t : ByteArray} {b : Bool} {RB : List (Nat × Array Value × TypeId)} {g z : Nat} {cs : Array Value} {L : List RowD} {cv : Value} {k : Nat} {xs : List Value} {ZC : Array Value} {ZT : TypeId} (h : RdS w wr a T t b RB g cs L cv k xs) (hz : wr.heap[z]? = some (.cells ZC ZT (0, 0))) (hzt : ZT = 26 ∨ ZT = 38) (hza : z < a) (hzw : w.heap.size ≤ z) (hg : wr.grownBy w' (some z)) : RdS w w' a T t b [] g cs L cv k xs := by
  obtain ⟨h1, h2, h3, ht, h5, h6, h7, h8, h9⟩ := h
  refine ⟨below_grow h1 hg hzw, h2, h3, ht, grown_blk hg h5 (by simp; omega), (fun q hq => by cases hq), grown_blk hg h7 (by simp; omega), fun q hq => ?_, h9.kept hg (own_not h9 hz (by rcases hzt with e | e <;> rw [e] <;> decide))⟩
  obtain ⟨q1, q2⟩ := h8 q hq
  exact ⟨q1.kept hg (own_not q1 hz (by rcases q2 with e | e <;> rcases hzt with e' | e' <;> rw [e, e'] <;> decide)), q2⟩
/-- Seven cells are written. -/
theorem sets_grown (w : World) (z : Nat) (v0 v1 v2 v3 v4 v5 v6 : Value) : w.grownBy (((((((w.setCell ⟨z, 0, none⟩ v0).setCell ⟨z, 1, none⟩ v1).setCell ⟨z, 2, none⟩ v2).setCell ⟨z, 3, none⟩ v3).setCell ⟨z, 4, none⟩ v4).setCell ⟨z, 5, none⟩ v5).setCell ⟨z, 6, none⟩ v6) (some z) :=
  grown_set (grown_set (grown_set (grown_set (grown_set (grown_set (grown_set (grown_refl w _) _) _) _) _) _) _) _
theorem errAt_set {w w' : World} {v : Value} {e p : Int} {z : Nat} {A : Option Addr} {l c : Nat} (h : ErrAt w v e p) (hz : w.cell? ⟨z, 1, none⟩ = some (.slice A l c)) (hg : w.grownBy w' (some z)) : ErrAt w' v e p := by
  rcases h with h | h | ⟨b, h1, h2, h3, h4⟩
  · exact .inl h
  · exact .inr (.inl h)
  · have hb : b ≠ z := fun e => by rw [e, hz] at h3; cases h3
    exact .inr (.inr ⟨b, h1, grown_cell hg h2 (by simpa using hb), grown_cell hg h3 (by simpa using hb), h4⟩)
/-- The cells of a step under way. -/
theorem x_cells {w : World} {g : Nat} {s : Stp} (h : w.heap[g]? = some (.cells (stpC s).toArray 31 (0, 0))) :
    w.cell? ⟨g, 0, none⟩ = some (.int .i64 s.c) ∧ w.cell? ⟨g, 1, none⟩ = some (.int .i64 s.d) ∧ w.cell? ⟨g, 2, none⟩ = some (.int .i64 s.a) ∧ w.cell? ⟨g, 3, none⟩ = some (.int .i64 s.b) ∧ w.cell? ⟨g, 4, none⟩ = some (.int .i64 s.e) := by
  refine ⟨?_, ?_, ?_, ?_, ?_⟩ <;> simp [World.cell?, h, stpC]
theorem blk_free {w : World} {g : Nat} {cs : Array Value} {T : TypeId} (h : w.heap[g]? = some (.cells cs T (0, 0))) (o : Nat) : w.frozen? ⟨g, o, none⟩ = false := by simp [World.frozen?, h]
/-- The cells of the code under way. -/
theorem net_cells {w : World} {g : Nat} {c0 c1 c2 c3 c4 c5 c6 : Value} (h : w.heap[g]? = some (.cells #[c0, c1, c2, c3, c4, c5, c6] 26 (0, 0))) :
    w.cell? ⟨g, 0, none⟩ = some c0 ∧ w.cell? ⟨g, 1, none⟩ = some c1 ∧ w.cell? ⟨g, 2, none⟩ = some c2 ∧ w.cell? ⟨g, 3, none⟩ = some c3 ∧ w.cell? ⟨g, 4, none⟩ = some c4 ∧ w.cell? ⟨g, 5, none⟩ = some c5 ∧ w.cell? ⟨g, 6, none⟩ = some c6 := by
  refine ⟨?_, ?_, ?_, ?_, ?_, ?_, ?_⟩ <;> simp [World.cell?, h]
theorem flat_get : ∀ (cs : List Stp) (j i : Nat) (s : Stp), cs[j]? = some s → i < 5 → (cs.flatMap stpC)[j * 5 + i]? = (stpC s)[i]?
  | [], j, i, s, h, hi => by simp at h
  | x :: r, 0, i, s, h, hi => by
    have : x = s := by simpa using h
    subst this
    rw [List.flatMap_cons, Nat.zero_mul, Nat.zero_add, List.getElem?_append_left (by simp [stpC]; exact hi)]
  | x :: r, j + 1, i, s, h, hi => by
    rw [List.flatMap_cons, List.getElem?_append_right (by simp [stpC]; omega), show (j + 1) * 5 + i - (stpC x).length = j * 5 + i by simp [stpC]; omega]
    exact flat_get r j i s (by simpa using h) hi
theorem flat_len (cs : List Stp) : (cs.flatMap stpC).length = cs.length * 5 := by
  induction cs with
  | nil => rfl
  | cons x r ih => rw [List.flatMap_cons, List.length_append, ih]; simp [stpC]; omega
/-- A row of steps that the call owns, read as steps. -/
theorem own_steps {w : World} {B : Nat} {A : Option Addr} {l c n : Nat} {cs : List Stp} (h : w.ownsRow B 31 5 (.slice A l c) n (cs.flatMap stpC)) : n = l ∧ StepsAt w A n cs ∧ n ≤ c := by
  obtain ⟨h1, h2⟩ := h
  have hl : cs.length = n := by rw [flat_len] at h1; omega
  rcases h2 with ⟨hv, hn⟩ | ⟨g, cap, cur, hv, hb, hgg, hle, hm, hs, ht⟩
  · cases hv
    exact ⟨hn, ⟨hl, fun h => absurd h (by omega)⟩, by omega⟩
  · cases hv
    refine ⟨rfl, ⟨hl, fun hn => ⟨g, 0, rfl, fun j hj => ?_⟩⟩, hle⟩
    obtain ⟨s, hs0⟩ : ∃ s, cs[j]? = some s := ⟨_, List.getElem?_eq_getElem (by omega)⟩
    have key : ∀ i, i < 5 → w.cell? ⟨g, 0 + j * 5 + i, none⟩ = (stpC s)[i]? := fun i hi => by
      have h3 := flat_get cs j i s hs0 hi
      rw [← ht, List.getElem?_take] at h3
      rw [if_pos (by omega)] at h3
      rw [Nat.zero_add, cell_of_row w g (j * 5 + i) cur 31 (0, 0) hgg]
      simpa using h3
    exact ⟨s, hs0, key 0 (by decide), key 1 (by decide), key 2 (by decide), key 3 (by decide), key 4 (by decide)⟩
theorem own_cap {w : World} {B n l c sz : Nat} {e : TypeId} {A : Option Addr} {xs : List Value} (h : w.ownsRow B e sz (.slice A l c) n xs) : n ≤ c := by
  rcases h.2 with ⟨hv, hn⟩ | ⟨g, cap, cur, hv, hb, hgg, hle, hm, hs, ht⟩
  · omega
  · cases hv; exact hle
/-! ### how far reading is -/
def k6 (P : Int) (f i o ke nu : List Int) (t : List UInt8) : Option NetP := (smallV t).bind fun g => restC (fun cs t => finR ⟨P, f, i, o, ke, nu, cs⟩ t) g.1 [] g.2
def k5 (P : Int) (f i o ke : List Int) (t : List UInt8) : Option NetP := (listR t).bind fun x => k6 P f i o ke x.1 x.2
def k4 (P : Int) (f i o : List Int) (t : List UInt8) : Option NetP := (listS t).bind fun x => k5 P f i o x.1 x.2
def k3 (P : Int) (f i : List Int) (t : List UInt8) : Option NetP := (listS t).bind fun x => k4 P f i x.1 x.2
def k2 (P : Int) (f : List Int) (t : List UInt8) : Option NetP := (listS t).bind fun x => k3 P f x.1 x.2
def k1 (P : Int) (t : List UInt8) : Option NetP := (listR t).bind fun x => k2 P x.1 x.2
theorem sofar_start (s : List UInt8) : Sofar false (imageR s) ((smallV s).bind fun a => k1 a.1 a.2) := ⟨fun _ => rfl, fun e => by cases e⟩
theorem sofar1 {a b : Bool} {R : Option NetP} {P : Int} {t t' : List UInt8} {y : List Int} (p : Sofar a R (k1 P t)) (f1 : b = false → a = false ∧ listR t = some (y, t')) (f2 : b = true → a = true ∨ listR t = none) : Sofar b R (k2 P y t') :=
  Sofar.stage (k := fun x => k2 P x.1 x.2) p f1 f2
theorem sofar2 {a b : Bool} {R : Option NetP} {P : Int} {f : List Int} {t t' : List UInt8} {y : List Int} (p : Sofar a R (k2 P f t)) (f1 : b = false → a = false ∧ listS t = some (y, t')) (f2 : b = true → a = true ∨ listS t = none) : Sofar b R (k3 P f y t') :=
  Sofar.stage (k := fun x => k3 P f x.1 x.2) p f1 f2
theorem sofar3 {a b : Bool} {R : Option NetP} {P : Int} {f i : List Int} {t t' : List UInt8} {y : List Int} (p : Sofar a R (k3 P f i t)) (f1 : b = false → a = false ∧ listS t = some (y, t')) (f2 : b = true → a = true ∨ listS t = none) : Sofar b R (k4 P f i y t') :=
  Sofar.stage (k := fun x => k4 P f i x.1 x.2) p f1 f2
theorem sofar4 {a b : Bool} {R : Option NetP} {P : Int} {f i o : List Int} {t t' : List UInt8} {y : List Int} (p : Sofar a R (k4 P f i o t)) (f1 : b = false → a = false ∧ listS t = some (y, t')) (f2 : b = true → a = true ∨ listS t = none) : Sofar b R (k5 P f i o y t') :=
  Sofar.stage (k := fun x => k5 P f i o x.1 x.2) p f1 f2
theorem sofar5 {a b : Bool} {R : Option NetP} {P : Int} {f i o ke : List Int} {t t' : List UInt8} {y : List Int} (p : Sofar a R (k5 P f i o ke t)) (f1 : b = false → a = false ∧ listR t = some (y, t')) (f2 : b = true → a = true ∨ listR t = none) : Sofar b R (k6 P f i o ke y t') :=
  Sofar.stage (k := fun x => k6 P f i o ke x.1 x.2) p f1 f2
/-- Behind a step's code; behind its place. -/
def hd2 {β : Type} (kk : Stp × List UInt8 → Option β) (C D : Nat) (t : List UInt8) : Option β :=
  (if C = 1 then (smallV t).bind fun z => some ((⟨C, D, z.1, 0, 0⟩ : Stp), z.2) else some ((⟨C, D, 0, 0, 0⟩ : Stp), t)).bind fun x => (argsR (arityV x.1.c) 0 x.1 x.2).bind kk
def hd1 {β : Type} (kk : Stp × List UInt8 → Option β) (C : Nat) (t : List UInt8) : Option β := (smallV t).bind fun y => hd2 kk C y.1 y.2
theorem sofarSmall {β : Type} {a b : Bool} {R : Option β} {t t' : List UInt8} {y : Nat} {k : Nat × List UInt8 → Option β} (p : Sofar a R ((smallV t).bind k)) (f1 : b = false → a = false ∧ smallV t = some (y, t')) (f2 : b = true → a = true ∨ smallV t = none) : Sofar b R (k (y, t')) := Sofar.stage p f1 f2
section
variable {β : Type} {a b : Bool} {R : Option β} {t t' : List UInt8} {kk : Stp × List UInt8 → Option β}
theorem sofarStep {FIN : List Stp → List UInt8 → Option β} {m : Nat} {cs : List Stp} {C : Nat} (p : Sofar a R (restC FIN (m + 1) cs t)) (f1 : b = false → a = false ∧ smallV t = some (C, t')) (f2 : b = true → a = true ∨ smallV t = none) : Sofar b R (hd1 (fun x => restC FIN m (cs ++ [x.1]) x.2) C t') := by
  rw [restC_succ, step_go] at p
  exact sofarSmall p f1 f2
theorem sofarDst {C D : Nat} (p : Sofar a R (hd1 kk C t)) (f1 : b = false → a = false ∧ smallV t = some (D, t')) (f2 : b = true → a = true ∨ smallV t = none) : Sofar b R (hd2 kk C D t') := sofarSmall p f1 f2
theorem sofarNum {D A : Nat} (p : Sofar a R (hd2 kk 1 D t)) (f1 : b = false → a = false ∧ smallV t = some (A, t')) (f2 : b = true → a = true ∨ smallV t = none) : Sofar b R ((argsR (arityV ((1 : Nat) : Int)) 0 ⟨(1 : Nat), D, A, 0, 0⟩ t').bind kk) := by
  unfold hd2 at p
  rw [if_pos rfl, bind_assoc'] at p
  exact sofarSmall p f1 f2
theorem sofarNoNum {C D : Nat} (h : C ≠ 1) (p : Sofar a R (hd2 kk C D t)) : Sofar a R ((argsR (arityV (C : Int)) 0 ⟨C, D, 0, 0, 0⟩ t).bind kk) := by
  unfold hd2 at p
  rw [if_neg h] at p
  exact p
theorem sofarArg {n j : Nat} {s : Stp} {y : Nat} (p : Sofar a R ((argsR (n + 1) j s t).bind kk)) (f1 : b = false → a = false ∧ smallV t = some (y, t')) (f2 : b = true → a = true ∨ smallV t = none) : Sofar b R ((argsR n (j + 1) (setArg s j y) t').bind kk) := by
  rw [argsR, bind_assoc'] at p
  exact sofarSmall p f1 f2
theorem sofarMore {FIN : List Stp → List UInt8 → Option β} {m j : Nat} {cs : List Stp} {s : Stp} (p : Sofar a R ((argsR 0 j s t).bind fun x => restC FIN m (cs ++ [x.1]) x.2)) : Sofar a R (restC FIN m (cs ++ [s]) t) := p
end
/-- What is handed back: what is wrong, and code. -/
def ReadOut (w : World) (an : (Int × Int) × NetP) (r : Ending) (w' : World) : Prop :=
  ∃ (P : Int) (A1 A2 A3 A4 A5 A6 : Option Addr) (n1 c1 n2 c2 n3 c3 n4 c4 n5 c5 n6 c6 : Nat) (v : Value), r = .returned (.tuple #[.agg #[.int .i64 P, .slice A1 n1 c1, .slice A2 n2 c2, .slice A3 n3 c3, .slice A4 n4 c4, .slice A5 n5 c5, .slice A6 n6 c6], v]) ∧
    ErrAt w' v an.1.1 an.1.2 ∧ NetAtL w' P A1 A2 A3 A4 A5 A6 n1 c1 n2 c2 n3 c3 n4 c4 n5 c5 n6 c6 an.2 ∧ Below w.heap.size w w'
theorem zeroAt (w : World) : NetAtL w 0 none none none none none none 0 0 0 0 0 0 0 0 0 0 0 0 zeroN :=
  ⟨rfl, IntsAt.nil _ _, IntsAt.nil _ _, IntsAt.nil _ _, IntsAt.nil _ _, IntsAt.nil _ _, ⟨rfl, fun h => absurd h (by omega)⟩, by decide, by decide, by decide, by decide, by decide, by decide, by decide, by decide⟩
theorem ansV_none : ansV none = ((3, -1), zeroN) := rfl
/-- Code that is read. -/
theorem RdS.netAt {w wr : World} {a : Nat} {T : TypeId} {t : ByteArray} {b : Bool} {RB : List (Nat × Array Value × TypeId)} {g : Nat} {cells : Array Value} {P : Int} {A1 A2 A3 A4 A5 A6 : Option Addr} {n1 c1 n2 c2 n3 c3 n4 c4 n5 c5 n6 c6 : Nat} {x1 x2 x3 x4 x5 : List Int} {cs : List Stp} {c6' : Nat}
    (h : RdS w wr a T t b RB g cells [⟨2, .slice A1 n1 c1, n1, x1.map (Value.int .i64)⟩, ⟨3, .slice A2 n2 c2, n2, x2.map (Value.int .i64)⟩, ⟨3, .slice A3 n3 c3, n3, x3.map (Value.int .i64)⟩, ⟨3, .slice A4 n4 c4, n4, x4.map (Value.int .i64)⟩, ⟨2, .slice A5 n5 c5, n5, x5.map (Value.int .i64)⟩] (.slice A6 n6 c6) n6 (cs.flatMap stpC))
    (hP : P ≤ 4000) (hl : x1.length + x2.length + x3.length + x4.length + x5.length + cs.length ≤ 1500) : NetAtL wr P A1 A2 A3 A4 A5 A6 n1 c1 n2 c2 n3 c3 n4 c4 n5 c5 n6 c6' ⟨P, x1, x2, x3, x4, x5, cs⟩ := by
  have q1 := own_ints (h.rows ⟨2, .slice A1 n1 c1, n1, x1.map (Value.int .i64)⟩ (by simp)).1
  have q2 := own_ints (h.rows ⟨3, .slice A2 n2 c2, n2, x2.map (Value.int .i64)⟩ (by simp)).1
  have q3 := own_ints (h.rows ⟨3, .slice A3 n3 c3, n3, x3.map (Value.int .i64)⟩ (by simp)).1
  have q4 := own_ints (h.rows ⟨3, .slice A4 n4 c4, n4, x4.map (Value.int .i64)⟩ (by simp)).1
  have q5 := own_ints (h.rows ⟨2, .slice A5 n5 c5, n5, x5.map (Value.int .i64)⟩ (by simp)).1
  have q6 := own_steps h.code
  have k2 := own_cap (h.rows ⟨3, .slice A2 n2 c2, n2, x2.map (Value.int .i64)⟩ (by simp)).1
  have l1 := q1.2.1.1
  have l2 := q2.2.1.1
  have l3 := q3.2.1.1
  have l4 := q4.2.1.1
  have l5 := q5.2.1.1
  have l6 := q6.2.1.1
  exact ⟨rfl, q1.2.1, q2.2.1, q3.2.1, q4.2.1, q5.2.1, q6.2.1, hP, by omega, by omega, by omega, by omega, by omega, by omega, k2, by omega⟩
end Go.Proofs.YtgglbjniclkkpaaDoor

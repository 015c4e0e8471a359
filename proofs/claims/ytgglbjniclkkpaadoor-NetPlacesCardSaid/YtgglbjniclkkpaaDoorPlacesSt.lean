/-
  The law NetPlaces: the state of building code whose places are called otherwise.
-/
import Derived.Test.YtgglbjniclkkpaaDoorPlacesPlain
import Derived.Deep.RegionHeld3
namespace Go.Proofs.YtgglbjniclkkpaaDoor
open Go.RowKit
set_option linter.unusedVariables false

theorem made_ints (n : Nat) : madeCells #[Value.int .i64 0] (n * 1) = Array.replicate n (Value.int .i64 0) := by
  unfold madeCells
  apply Array.ext'
  rw [Nat.mul_one]
  apply List.ext_getElem
  · simp
  · intro i h1 h2
    simp [Nat.mod_one]
theorem new_d (w : World) (o : Obj) : (w.alloc o).drew.heap[w.heap.size]? = some o := heap_alloc_new w o
theorem new2_old_d (w : World) (A B : Obj) : ((w.alloc A).alloc B).drew.heap[w.heap.size]? = some A := heap_alloc2_old w A B
theorem new2_new_d (w : World) (A B : Obj) : ((w.alloc A).alloc B).drew.heap[w.heap.size + 1]? = some B := heap_alloc2_new w A B
theorem blk_alloc {w : World} {g : Nat} {o : Obj} (o' : Obj) (h : w.heap[g]? = some o) : (w.alloc o').heap[g]? = some o := grown_blk (World.grownBy_alloc w o' none) h (by simp)
/-- While code called otherwise is built. -/
structure PSt (W wr : World) (g13 gF : Nat) (cs : Array Value) (F : List Int) (L : List RowD) (cv : Value) (k : Nat) (xs : List Value) : Prop where
  below : Below W.heap.size W wr
  lo : W.heap.size ≤ g13
  lf : W.heap.size ≤ gF
  net : wr.heap[g13]? = some (.cells cs 26 (0, 0))
  first : wr.heap[gF]? = some (.cells (F.map (Value.int .i64)).toArray 2 (0, 0))
  rows : ∀ q ∈ L, wr.ownsRow W.heap.size q.e 1 q.v q.n q.xs ∧ q.e = 3
  code : wr.ownsRow W.heap.size 31 5 cv k xs
section
variable {W wr w' : World} {g13 gF : Nat} {cs : Array Value} {F : List Int} {L : List RowD} {cv : Value} {k : Nat} {xs : List Value}
theorem PSt.other (h : PSt W wr g13 gF cs F L cv k xs) {r : Option Nat} (hg : wr.grownBy w' r) (h1 : some g13 ≠ r) (h2 : some gF ≠ r) (h3 : ∀ q ∈ L, q.v.ownBlock = none ∨ q.v.ownBlock ≠ r) (h4 : cv.ownBlock = none ∨ cv.ownBlock ≠ r) (hx : ∀ x, r = some x → W.heap.size ≤ x) : PSt W w' g13 gF cs F L cv k xs :=
  ⟨below_own h.below hg hx, h.lo, h.lf, grown_blk hg h.net h1, grown_blk hg h.first h2, fun q hq => ⟨(h.rows q hq).1.kept hg (h3 q hq), (h.rows q hq).2⟩, h.code.kept hg h4⟩
theorem PSt.grow (h : PSt W wr g13 gF cs F L cv k xs) (hb : Below wr.heap.size wr w') : PSt W w' g13 gF cs F L cv k xs :=
  h.other (grown_below none hb) (by simp) (by simp) (fun q _ => by cases q.v.ownBlock <;> simp) (by cases cv.ownBlock <;> simp) (fun x e => by cases e)
theorem PSt.drew (h : PSt W wr g13 gF cs F L cv k xs) : PSt W wr.drew g13 gF cs F L cv k xs := ⟨h.below.drew, h.lo, h.lf, h.net, h.first, h.rows, h.code⟩
theorem PSt.ne (h : PSt W wr g13 gF cs F L cv k xs) : g13 ≠ gF := fun e => by
  have h1 := h.net
  rw [e, h.first] at h1
  injection h1 with h1
  injection h1 with _ h2 _
  exact absurd h2 (by decide)
/-- A first number is written. -/
theorem PSt.setF (h : PSt W wr g13 gF cs F L cv k xs) (q : Nat) (x : Int) : PSt W (wr.setCell ⟨gF, q, none⟩ (.int .i64 x)) g13 gF cs (F.set q x) L cv k xs := by
  have hg := set_grown wr gF q (.int .i64 x)
  refine ⟨below_grow h.below hg h.lf, h.lo, h.lf, grown_blk hg h.net (by simpa using h.ne), ?_, fun y hy => ⟨(h.rows y hy).1.kept hg (own_not (h.rows y hy).1 h.first (by rw [(h.rows y hy).2]; decide)), (h.rows y hy).2⟩, h.code.kept hg (own_not h.code h.first (by decide))⟩
  rw [set_block h.first, List.map_set]
  simp
/-- A field is written. -/
theorem PSt.setN (h : PSt W wr g13 gF cs F L cv k xs) (i : Nat) (v : Value) : PSt W (wr.setCell ⟨g13, i, none⟩ v) g13 gF (cs.setIfInBounds i v) F L cv k xs := by
  have hg := set_grown wr g13 i v
  exact ⟨below_grow h.below hg h.lo, h.lo, h.lf, set_block h.net, grown_blk hg h.first (by simpa using h.ne.symm), fun y hy => ⟨(h.rows y hy).1.kept hg (own_not (h.rows y hy).1 h.net (by rw [(h.rows y hy).2]; decide)), (h.rows y hy).2⟩, h.code.kept hg (own_not h.code h.net (by decide))⟩
/-- A step more. -/
theorem PSt.more (h : PSt W wr g13 gF cs F L cv k xs) {cv' : Value} {k' : Nat} {xs' : List Value} (hg : wr.grownBy w' cv.ownBlock) (hown : w'.ownsRow W.heap.size 31 5 cv' k' xs') : PSt W w' g13 gF cs F L cv' k' xs' := by
  have hne : ∀ x c T', wr.heap[x]? = some (.cells c T' (0, 0)) → (31 : TypeId) ≠ T' → some x ≠ cv.ownBlock := fun x c T' hx hT e => by
    rcases own_not h.code hx hT with h | h
    · rw [h] at e; cases e
    · exact h e.symm
  refine ⟨below_own h.below hg (fun x e => (own_lt' h.code x e).1), h.lo, h.lf, grown_blk hg h.net (hne _ _ _ h.net (by decide)), grown_blk hg h.first (hne _ _ _ h.first (by decide)), fun q hq => ?_, hown⟩
  obtain ⟨q1, q2⟩ := h.rows q hq
  refine ⟨q1.kept hg ?_, q2⟩
  rcases hv : q.v.ownBlock with _ | y
  · exact .inl rfl
  · right
    obtain ⟨c, hc⟩ := own_kind' q1 y hv
    exact hne _ _ _ hc (by rw [q2]; decide)
end
/-- While the region makes blocks and rows of its own: what it has made. -/
structure KB (W w : World) (bs : List (Nat × Obj)) (rs : List RowD) : Prop where
  below : Below W.heap.size W w
  blk : ∀ q ∈ bs, w.heap[q.1]? = some q.2 ∧ W.heap.size ≤ q.1
  row : ∀ q ∈ rs, w.ownsRow W.heap.size q.e 1 q.v q.n q.xs ∧ q.e = 3
section
variable {W w w' : World} {bs : List (Nat × Obj)} {rs : List RowD}
theorem KB.nil (W : World) : KB W W [] [] := ⟨Below.refl _ _, (fun q hq => by cases hq), (fun q hq => by cases hq)⟩
theorem KB.drew (K : KB W w bs rs) : KB W w.drew bs rs := ⟨K.below.drew, K.blk, K.row⟩
theorem KB.alloc (K : KB W w bs rs) (o : Obj) : KB W (w.alloc o) ((w.heap.size, o) :: bs) rs :=
  ⟨K.below.alloc K.below.size o, (fun q hq => by
    rcases List.mem_cons.1 hq with rfl | hq
    · exact ⟨heap_alloc_new w o, K.below.size⟩
    · exact ⟨blk_alloc o (K.blk q hq).1, (K.blk q hq).2⟩), fun q hq => ⟨(K.row q hq).1.alloc o, (K.row q hq).2⟩⟩
theorem KB.alloc2 (K : KB W w bs rs) (o o' : Obj) : KB W ((w.alloc o).alloc o') ((w.heap.size + 1, o') :: (w.heap.size, o) :: bs) rs := by
  have h := (K.alloc o).alloc o'
  rw [World.size_alloc] at h
  exact h
theorem KB.call {v : Value} {n : Nat} {xs : List Value} (hb : Below w.heap.size w w') (ho : w'.ownsRow w.heap.size 3 1 v n xs) (K : KB W w bs rs) : KB W w' bs (⟨3, v, n, xs⟩ :: rs) :=
  ⟨below_up K.below hb, (fun q hq => ⟨grown_blk (grown_below none hb) (K.blk q hq).1 (by simp), (K.blk q hq).2⟩), (fun q hq => by
    rcases List.mem_cons.1 hq with rfl | hq
    · exact ⟨own_base ho K.below.size, rfl⟩
    · exact ⟨row_grow2 (K.row q hq).1 hb, (K.row q hq).2⟩)⟩
theorem KB.sets (K : KB W w bs rs) {z : Nat} {o : Obj} (h : (z, o) ∈ bs) (v0 v1 v2 v3 v4 v5 v6 : Value) : Below W.heap.size W (((((((w.setCell ⟨z, 0, none⟩ v0).setCell ⟨z, 1, none⟩ v1).setCell ⟨z, 2, none⟩ v2).setCell ⟨z, 3, none⟩ v3).setCell ⟨z, 4, none⟩ v4).setCell ⟨z, 5, none⟩ v5).setCell ⟨z, 6, none⟩ v6) :=
  below_grow K.below (sets_grown w z v0 v1 v2 v3 v4 v5 v6) (K.blk _ h).2
theorem KB.setsA (K : KB W w bs rs) {z : Nat} {o : Obj} (h : (z, o) ∈ bs) (v0 v1 v2 v3 v4 v5 v6 : Value) (o' : Obj) : Below W.heap.size W ((((((((w.setCell ⟨z, 0, none⟩ v0).setCell ⟨z, 1, none⟩ v1).setCell ⟨z, 2, none⟩ v2).setCell ⟨z, 3, none⟩ v3).setCell ⟨z, 4, none⟩ v4).setCell ⟨z, 5, none⟩ v5).setCell ⟨z, 6, none⟩ v6).alloc o') :=
  (K.sets h v0 v1 v2 v3 v4 v5 v6).alloc (K.sets h v0 v1 v2 v3 v4 v5 v6).size _
theorem KB.pst2 (K : KB W w bs rs) {z : Nat} {c0 c1 c2 c3 c4 c5 c6 : Value} (F : List Int) (h : (z, Obj.cells #[c0, c1, c2, c3, c4, c5, c6] 26) ∈ bs) (v0 v1 v2 v3 v4 v5 v6 : Value) {L : List RowD} (hL : ∀ q ∈ L, q ∈ rs) :
    PSt W ((((((((w.setCell ⟨z, 0, none⟩ v0).setCell ⟨z, 1, none⟩ v1).setCell ⟨z, 2, none⟩ v2).setCell ⟨z, 3, none⟩ v3).setCell ⟨z, 4, none⟩ v4).setCell ⟨z, 5, none⟩ v5).setCell ⟨z, 6, none⟩ v6).alloc (.cells (F.map (Value.int .i64)).toArray 2)) z w.heap.size #[v0, v1, v2, v3, v4, v5, v6] F L (.slice none 0 0) 0 [] := by
  have hz := (K.blk _ h).1
  have hn := set_block (i := 6) (v := v6) (set_block (i := 5) (v := v5) (set_block (i := 4) (v := v4) (set_block (i := 3) (v := v3) (set_block (i := 2) (v := v2) (set_block (i := 1) (v := v1) (set_block (i := 0) (v := v0) hz))))))
  simp only [List.setIfInBounds_toArray, List.set_cons_zero, List.set_cons_succ] at hn
  have hf := heap_alloc_new (((((((w.setCell ⟨z, 0, none⟩ v0).setCell ⟨z, 1, none⟩ v1).setCell ⟨z, 2, none⟩ v2).setCell ⟨z, 3, none⟩ v3).setCell ⟨z, 4, none⟩ v4).setCell ⟨z, 5, none⟩ v5).setCell ⟨z, 6, none⟩ v6) (Obj.cells (F.map (Value.int .i64)).toArray 2)
  rw [show (((((((w.setCell ⟨z, 0, none⟩ v0).setCell ⟨z, 1, none⟩ v1).setCell ⟨z, 2, none⟩ v2).setCell ⟨z, 3, none⟩ v3).setCell ⟨z, 4, none⟩ v4).setCell ⟨z, 5, none⟩ v5).setCell ⟨z, 6, none⟩ v6).heap.size = w.heap.size by simp] at hf
  exact ⟨K.setsA h v0 v1 v2 v3 v4 v5 v6 _, (K.blk _ h).2, K.below.size, blk_alloc _ hn, hf, fun q hq => ⟨((K.row q (hL q hq)).1.kept (sets_grown w z v0 v1 v2 v3 v4 v5 v6) (own_not (K.row q (hL q hq)).1 hz (by rw [(K.row q (hL q hq)).2]; decide))).alloc _, (K.row q (hL q hq)).2⟩, World.ownsRow_nil _ _ _ _⟩
theorem KB.pst (K : KB W w bs rs) {z gF : Nat} {c0 c1 c2 c3 c4 c5 c6 : Value} {F : List Int} (h : (z, Obj.cells #[c0, c1, c2, c3, c4, c5, c6] 26) ∈ bs) (hF : (gF, Obj.cells (F.map (Value.int .i64)).toArray 2) ∈ bs) (v0 v1 v2 v3 v4 v5 v6 : Value) {L : List RowD} (hL : ∀ q ∈ L, q ∈ rs) :
    PSt W (((((((w.setCell ⟨z, 0, none⟩ v0).setCell ⟨z, 1, none⟩ v1).setCell ⟨z, 2, none⟩ v2).setCell ⟨z, 3, none⟩ v3).setCell ⟨z, 4, none⟩ v4).setCell ⟨z, 5, none⟩ v5).setCell ⟨z, 6, none⟩ v6) z gF #[v0, v1, v2, v3, v4, v5, v6] F L (.slice none 0 0) 0 [] := by
  have P0 : PSt W w z gF #[c0, c1, c2, c3, c4, c5, c6] F L (.slice none 0 0) 0 [] := ⟨K.below, (K.blk _ h).2, (K.blk _ hF).2, (K.blk _ h).1, (K.blk _ hF).1, fun q hq => K.row q (hL q hq), World.ownsRow_nil _ _ _ _⟩
  have P1 := ((((((P0.setN 0 v0).setN 1 v1).setN 2 v2).setN 3 v3).setN 4 v4).setN 5 v5).setN 6 v6
  simp only [List.setIfInBounds_toArray, List.set_cons_zero, List.set_cons_succ] at P1
  exact P1
end
theorem toV_eq (P by' : Nat) : toV P by' = toI P by' := rfl
theorem zeros_eq (n : Nat) : (Array.replicate n (Value.int .i64 0)) = ((List.replicate n (0 : Int)).map (Value.int .i64)).toArray := by simp
theorem KB.pstZ {W w : World} {bs : List (Nat × Obj)} {rs : List RowD} (K : KB W w bs rs) {z gF : Nat} {cs : Array Value} {F : List Int} (h : (z, Obj.cells cs 26) ∈ bs) (hF : (gF, Obj.cells (F.map (Value.int .i64)).toArray 2) ∈ bs) {L : List RowD} (hL : ∀ q ∈ L, q ∈ rs) : PSt W w z gF cs F L (.slice none 0 0) 0 [] :=
  ⟨K.below, (K.blk _ h).2, (K.blk _ hF).2, (K.blk _ h).1, (K.blk _ hF).1, fun q hq => K.row q (hL q hq), World.ownsRow_nil _ _ _ _⟩
theorem rev3 {α : Type} (a b c : α) : ∀ q ∈ [a, b, c], q ∈ [c, b, a] := by
  intro q h
  simp only [List.mem_cons, List.not_mem_nil, or_false] at h ⊢
  rcases h with h | h | h <;> simp [h]
theorem blk_ne {w : World} {a b : Nat} {c c' : Array Value} {T T' : TypeId} (ha : w.heap[a]? = some (.cells c T (0, 0))) (hb : w.heap[b]? = some (.cells c' T' (0, 0))) (ht : T ≠ T') : a ≠ b := fun e => by
  rw [e, hb] at ha
  injection ha with ha
  injection ha with _ h2 _
  exact ht h2.symm
theorem pickG {W0 W1 : World} {p1 p2 p3 p4 p5 p6 : Prop} (h : p1 ∧ p2 ∧ p3 ∧ p4 ∧ p5 ∧ p6 ∧ Below W0.heap.size W0 W1) : Below W0.heap.size W0 W1 := h.2.2.2.2.2.2
/-- While a step is made: what it is made of, and it. -/
structure YSt (W wr : World) (g13 gF : Nat) (cs : Array Value) (F : List Int) (L : List RowD) (cv : Value) (k : Nat) (xs : List Value) (gx gy : Nat) (sx sy : Stp) : Prop where
  st : PSt W wr g13 gF cs F L cv k xs
  x : wr.heap[gx]? = some (.cells (stpC sx).toArray 31 (0, 0))
  y : wr.heap[gy]? = some (.cells (stpC sy).toArray 31 (0, 0))
  ly : W.heap.size ≤ gy
  ne : gx ≠ gy
  cl : ∀ z, cv.ownBlock = some z → z ≠ gy
section
variable {W wr w' : World} {g13 gF gx gy : Nat} {cs : Array Value} {F : List Int} {L : List RowD} {cv : Value} {k : Nat} {xs : List Value} {sx sy : Stp}
theorem YSt.start (h : PSt W wr g13 gF cs F L cv k xs) (hx : wr.heap[gx]? = some (.cells (stpC sx).toArray 31 (0, 0))) : YSt W (wr.alloc (.cells #[.int .i64 0, .int .i64 0, .int .i64 0, .int .i64 0, .int .i64 0] 31)) g13 gF cs F L cv k xs gx wr.heap.size sx ⟨0, 0, 0, 0, 0⟩ :=
  ⟨h.grow ((Below.refl _ _).alloc (Nat.le_refl _) _), blk_alloc _ hx, heap_alloc_new wr _, h.below.size, (fun e => by have := (Array.getElem?_eq_some_iff.1 hx).1; omega), fun z hz => by have := (own_lt' h.code z hz).2; omega⟩
theorem YSt.start' (sy : Stp) (h : PSt W wr g13 gF cs F L cv k xs) (hx : wr.heap[gx]? = some (.cells (stpC sx).toArray 31 (0, 0))) : YSt W (wr.alloc (.cells (stpC sy).toArray 31)) g13 gF cs F L cv k xs gx wr.heap.size sx sy :=
  ⟨h.grow ((Below.refl _ _).alloc (Nat.le_refl _) _), blk_alloc _ hx, heap_alloc_new wr _, h.below.size, (fun e => by have := (Array.getElem?_eq_some_iff.1 hx).1; omega), fun z hz => by have := (own_lt' h.code z hz).2; omega⟩
theorem YSt.drew (h : YSt W wr g13 gF cs F L cv k xs gx gy sx sy) : YSt W wr.drew g13 gF cs F L cv k xs gx gy sx sy := ⟨h.st.drew, h.x, h.y, h.ly, h.ne, h.cl⟩
theorem YSt.set (h : YSt W wr g13 gF cs F L cv k xs gx gy sx sy) (i : Nat) (v : Value) {sy' : Stp} (e : (stpC sy).toArray.setIfInBounds i v = (stpC sy').toArray) : YSt W (wr.setCell ⟨gy, i, none⟩ v) g13 gF cs F L cv k xs gx gy sx sy' := by
  have hg := set_grown wr gy i v
  refine ⟨h.st.other hg (by simpa using blk_ne h.st.net h.y (by decide)) (by simpa using blk_ne h.st.first h.y (by decide)) (fun q hq => own_not (h.st.rows q hq).1 h.y (by rw [(h.st.rows q hq).2]; decide)) ?_ (fun x e => by cases e; exact h.ly), grown_blk hg h.x (by simpa using h.ne), ?_, h.ly, h.ne, h.cl⟩
  · rcases hv : cv.ownBlock with _ | z
    · exact .inl rfl
    · exact .inr (by simpa using h.cl z hv)
  · rw [set_block h.y, e]
theorem YSt.setA (h : YSt W wr g13 gF cs F L cv k xs gx gy sx sy) (v : Int) : YSt W (wr.setCell ⟨gy, 2, none⟩ (.int .i64 v)) g13 gF cs F L cv k xs gx gy sx ⟨sy.c, sy.d, v, sy.b, sy.e⟩ := h.set 2 _ rfl
theorem YSt.setB (h : YSt W wr g13 gF cs F L cv k xs gx gy sx sy) (v : Int) : YSt W (wr.setCell ⟨gy, 3, none⟩ (.int .i64 v)) g13 gF cs F L cv k xs gx gy sx ⟨sy.c, sy.d, sy.a, v, sy.e⟩ := h.set 3 _ rfl
theorem YSt.setE (h : YSt W wr g13 gF cs F L cv k xs gx gy sx sy) (v : Int) : YSt W (wr.setCell ⟨gy, 4, none⟩ (.int .i64 v)) g13 gF cs F L cv k xs gx gy sx ⟨sy.c, sy.d, sy.a, sy.b, v⟩ := h.set 4 _ rfl
theorem YSt.sets (h : YSt W wr g13 gF cs F L cv k xs gx gy sx sy) (c d a b e : Int) : YSt W (((((wr.setCell ⟨gy, 0, none⟩ (.int .i64 c)).setCell ⟨gy, 1, none⟩ (.int .i64 d)).setCell ⟨gy, 2, none⟩ (.int .i64 a)).setCell ⟨gy, 3, none⟩ (.int .i64 b)).setCell ⟨gy, 4, none⟩ (.int .i64 e)) g13 gF cs F L cv k xs gx gy sx ⟨c, d, a, b, e⟩ :=
  ((((h.set (sy' := ⟨c, sy.d, sy.a, sy.b, sy.e⟩) 0 _ rfl).set (sy' := ⟨c, d, sy.a, sy.b, sy.e⟩) 1 _ rfl).set (sy' := ⟨c, d, a, sy.b, sy.e⟩) 2 _ rfl).set (sy' := ⟨c, d, a, b, sy.e⟩) 3 _ rfl).set 4 _ rfl
end
theorem infoStpP : (Tryd.prog.info? 31).map (fun i => (i.zero, i.size, i.bytes)) = some (some (.agg #[.int .i64 0, .int .i64 0, .int .i64 0, .int .i64 0, .int .i64 0]), 5, 40) := by kernel_rfl
/-- The numbers of a block. -/
theorem ints_block {w : World} {g : Nat} {F : List Int} (h : w.heap[g]? = some (.cells (F.map (Value.int .i64)).toArray 2 (0, 0))) {n : Nat} (hn : F.length = n) : IntsAt w (some ⟨g, 0, none⟩) n F :=
  ⟨hn, fun _ => ⟨g, 0, rfl, fun j hj => by
    rw [cell_of_row w g (0 + j) _ 2 (0, 0) h, Nat.zero_add]
    simp [List.getD_eq_getElem?_getD, List.getElem?_eq_getElem (show j < F.length by omega)]⟩⟩
theorem first_cell {w : World} {g : Nat} {F : List Int} (h : w.heap[g]? = some (.cells (F.map (Value.int .i64)).toArray 2 (0, 0))) {j : Nat} (hj : j < F.length) : w.cell? ⟨g, j, none⟩ = some (.int .i64 (F.getD j 0)) := by
  have h1 := ints_block h rfl
  obtain ⟨b, o, e, hc⟩ := h1.2 (by omega)
  cases e
  have := hc j hj
  rwa [Nat.zero_add] at this
/-- Code that is built. -/
theorem PSt.netAt {W wr : World} {g13 gF m : Nat} {cells : Array Value} {F x2 x3 x4 x5 : List Int} {D2 D3 D4 A5 A6 : Option Addr} {n2 e2 n3 e3 n4 e4 n5 c5 k6 c6 c6' : Nat} {cs : List Stp}
    (h : PSt W wr g13 gF cells F [⟨3, .slice D2 n2 e2, n2, x2.map (Value.int .i64)⟩, ⟨3, .slice D3 n3 e3, n3, x3.map (Value.int .i64)⟩, ⟨3, .slice D4 n4 e4, n4, x4.map (Value.int .i64)⟩] (.slice A6 k6 c6) k6 (cs.flatMap stpC))
    (hF : F.length = m) (h5 : IntsAt wr A5 n5 x5) (hm : m ≤ 4000) (b2 : n2 ≤ 1000) (b3 : n3 ≤ 1000) (b4 : n4 ≤ 1000) (b5 : n5 ≤ 1000) (b6 : k6 ≤ 1000) : NetAtL wr (m : Int) (some ⟨gF, 0, none⟩) D2 D3 D4 A5 A6 m m n2 e2 n3 e3 n4 e4 n5 c5 k6 c6' ⟨m, F, x2, x3, x4, x5, cs⟩ := by
  have q2 := own_ints (h.rows ⟨3, .slice D2 n2 e2, n2, x2.map (Value.int .i64)⟩ (by simp)).1
  have q3 := own_ints (h.rows ⟨3, .slice D3 n3 e3, n3, x3.map (Value.int .i64)⟩ (by simp)).1
  have q4 := own_ints (h.rows ⟨3, .slice D4 n4 e4, n4, x4.map (Value.int .i64)⟩ (by simp)).1
  have q6 := own_steps h.code
  have k2 := own_cap (h.rows ⟨3, .slice D2 n2 e2, n2, x2.map (Value.int .i64)⟩ (by simp)).1
  exact ⟨rfl, ints_block h.first hF, q2.2.1, q3.2.1, q4.2.1, h5, q6.2.1, by omega, by omega, by omega, by omega, by omega, by omega, by omega, k2, by omega⟩
theorem Mixed.append {P b : Nat} {r r' : List Stp} (h : Mixed P b r r') : ∀ {q q' : List Stp}, Mixed P b q q' → Mixed P b (r ++ q) (r' ++ q') := by
  induction h with
  | nil => intro q q' h; exact h
  | cons _ ih => intro q q' h; exact .cons (ih h)
  | more h1 h2 _ ih => intro q q' h; exact .more h1 h2 (ih h)
/-- What a place is called otherwise, by its number. -/
theorem to_keptI (p : Int) (by' P g5 g4 : Nat) (hP : P ≤ 4000) (hp : 0 ≤ p ∧ p < (P : Int)) (hb : by' < P) (w : World) (h5 : w.cell? ⟨g5, 0, none⟩ = some (.int .i64 by')) (h4 : w.cell? ⟨g4, 0, none⟩ = some (.int .i64 P)) :
    Calls Tryd.prog 30 #[.int .i64 p, .pointer (some ⟨g5, 0, none⟩), .pointer (some ⟨g4, 0, none⟩)] w fun r w' => r = .returned (.int .i64 (toI P by' p)) ∧ w = w' := by
  obtain ⟨q, rfl⟩ := Int.eq_ofNat_of_zero_le hp.1
  exact (to_kept q by' P g5 g4 hP (by omega) hb w h5 h4).mono fun r w' h => ⟨by rw [h.1]; unfold toI toN; rw [Int.toNat_natCast], h.2⟩
/-- The place that a number picks. -/
def pickPl (a : Int) (n : Nat) : Nat := (IntKind.u64.wrap a).toNat % n
theorem pickPl_lt {a : Int} {n : Nat} (h : 0 < n) : pickPl a n < n := Nat.mod_lt _ h
theorem pick_at (a : Int) (n : Nat) (hn : 0 < n) (hn2 : n ≤ 4000) (w : World) : Calls Tryd.prog 29 #[.int .i64 a, .int .i64 n] w fun r w' => r = .returned (.int .i64 (pickPl a n : Int)) ∧ w' = w := by
  go_enter Tryd.func29, Tryd.ntmps29
  go_wp2
  obtain ⟨u, hu⟩ : ∃ u : Nat, IntKind.u64.wrap a = (u : Int) := Int.eq_ofNat_of_zero_le (by rw [IntKind.wrap_u64]; omega)
  have hm : u % n < n := Nat.mod_lt _ hn
  have e : wrap64 ((IntKind.u64.wrap a).tmod (n : Int)) = ((u % n : Nat) : Int) := by
    rw [hu, show ((u : Int)).tmod (n : Int) = ((u % n : Nat) : Int) from rfl]
    unfold wrap64
    omega
  rw [e]
  go_ret
  have hp : pickPl a n = u % n := by unfold pickPl; rw [hu, Int.toNat_natCast]
  exact ⟨by rw [hp]; rfl, rfl⟩
section
variable {P : Program} {md : Region.Mode} {ops : Array Oper} {Q : Exit → Act → World → Prop} {S : World → Prop} {fuel i j : Nat} {listed : Array Bool} {a : Act} {w : World} {v : Value} {o o' : Oper}
/-- An operation of a region that draws is taken first. -/
theorem take_at {dst : Option Tmp} {op : Op} {ty : TypeId} {pos : String} {aft : Array Edge} {gd : Option (Tmp × Bool)} (hi : ops[i]? = some ⟨dst, op, ty, pos, aft, gd⟩)
    (hs : Region.noSelect ops = true) (hf : Region.free md ops listed i = true) (hr : (Region.ready md ops listed).contains i = true)
    (hQ : ∀ c a w, Q (.panic c) (a.put dst v) w → Q (.panic c) a w) (hy : YieldsIf P ops S ⟨dst, op, ty, pos, aft, gd⟩ v a) (hS : S w)
    (h : wpAnyH P md ops Q S fuel (listed.setIfInBounds i true) (a.put dst v) w) : wpAnyH P md ops Q S (fuel + 1) listed a w := wpAnyH_take hi hs hf hr hQ hy hS h
/-- One alone may come up. -/
theorem one_at {dst : Option Tmp} {op : Op} {ty : TypeId} {pos : String} {aft : Array Edge} {gd : Option (Tmp × Bool)} (hr : Region.ready md ops listed = [i]) (hi : ops[i]? = some ⟨dst, op, ty, pos, aft, gd⟩)
    (h : ∀ K' : Act → World → Prop, Shut (∀ a w, S w → (S w → wpAnyH P md ops Q S fuel (listed.setIfInBounds i true) a w) → K' a w) → if Region.wanted ⟨dst, op, ty, pos, aft, gd⟩ (yielded ops a.tmps) = true then Oper.wp P ⟨dst, op, ty, pos, aft, gd⟩ a w K' Q else K' (a.put dst undef) w) : wpAnyH P md ops Q S (fuel + 1) listed a w :=
  wpAnyH_ready hr (by simp) (AllReadyH.cons hi h AllReadyH.nil)
/-- Two may come up. -/
theorem two_at {dst : Option Tmp} {op : Op} {ty : TypeId} {pos : String} {aft : Array Edge} {gd : Option (Tmp × Bool)} {dst' : Option Tmp} {op' : Op} {ty' : TypeId} {pos' : String} {aft' : Array Edge} {gd' : Option (Tmp × Bool)} (hr : Region.ready md ops listed = [i, j]) (hi : ops[i]? = some ⟨dst, op, ty, pos, aft, gd⟩) (hj : ops[j]? = some ⟨dst', op', ty', pos', aft', gd'⟩)
    (h : ∀ K' : Act → World → Prop, Shut (∀ a w, S w → (S w → wpAnyH P md ops Q S fuel (listed.setIfInBounds i true) a w) → K' a w) → if Region.wanted ⟨dst, op, ty, pos, aft, gd⟩ (yielded ops a.tmps) = true then Oper.wp P ⟨dst, op, ty, pos, aft, gd⟩ a w K' Q else K' (a.put dst undef) w)
    (h' : ∀ K' : Act → World → Prop, Shut (∀ a w, S w → (S w → wpAnyH P md ops Q S fuel (listed.setIfInBounds j true) a w) → K' a w) → if Region.wanted ⟨dst', op', ty', pos', aft', gd'⟩ (yielded ops a.tmps) = true then Oper.wp P ⟨dst', op', ty', pos', aft', gd'⟩ a w K' Q else K' (a.put dst' undef) w) : wpAnyH P md ops Q S (fuel + 1) listed a w :=
  wpAnyH_ready hr (by simp) (AllReadyH.cons hi h (AllReadyH.cons hj h' AllReadyH.nil))
end
/-- First numbers, so far. -/
theorem first_step {n b k : Nat} {F X : List Int} (hb : b < n) (hk : k < n) (h : F.length = n + 1 ∧ ∀ q, q < k → F.getD (toN n b q) 0 = X.getD q 0) : (F.set (toN n b k) (X.getD k 0)).length = n + 1 ∧ ∀ q, q < k + 1 → (F.set (toN n b k) (X.getD k 0)).getD (toN n b q) 0 = X.getD q 0 := by
  have hlt := toN_lt (b := b) (p := k) (show 0 < n by omega)
  refine ⟨by simpa using h.1, fun q hq => ?_⟩
  by_cases e : q = k
  · subst e
    rw [getD_set_self _ (by omega)]
  · rw [getD_set_ne _ (fun h' => e (toN_inj (by omega) (by omega) hb h'.symm)), h.2 q (by omega)]
end Go.Proofs.YtgglbjniclkkpaaDoor

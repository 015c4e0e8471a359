/-
  trace.Read: while lines are read.
-/
import Derived.Test.YtgglbjniclkkpaaGreatDoorIter
namespace Go.Proofs.YtgglbjniclkkpaaGreatDoor
open Go.RowKit Go.Shelf
set_option linter.unusedVariables false

theorem keep_cells {W W' : World} {row : Option Nat} {g : Nat} {c : Array Value} {T : TypeId} {fr : Nat × Nat} (h : W.heap[g]? = some (.cells c T fr)) (hg : W.grownBy W' row) (hr : ∀ r, row = some r → ∃ o : Obj, W.heap[r]? = some o ∧ o.isCells = false) : W'.heap[g]? = some (.cells c T fr) :=
  (hg.block g (Array.getElem?_eq_some_iff.1 h).1 (fun e => by
    obtain ⟨o, h1, h2⟩ := hr g e.symm
    rw [h] at h1
    cases h1
    cases h2)).trans h
theorem keep_own {W W' : World} {row : Option Nat} {B sz n : Nat} {e : TypeId} {v : Value} {xs : List Value} (h : W.ownsRow B e sz v n xs) (hg : W.grownBy W' row) (hr : ∀ r, row = some r → ∃ o : Obj, W.heap[r]? = some o ∧ o.isCells = false) : W'.ownsRow B e sz v n xs := by
  refine h.kept hg ?_
  rcases hv : v.ownBlock with _ | x
  · exact .inl rfl
  · right
    obtain ⟨c, hc⟩ := own_kind' h x hv
    intro e
    obtain ⟨o, h1, h2⟩ := hr x e.symm
    rw [hc] at h1
    cases h1
    cases h2
theorem keep_err {W W' : World} {row : Option Nat} {v : Value} {e p : Int} (h : ErrAt W v e p) (hg : W.grownBy W' row) (hr : ∀ r, row = some r → ∃ o : Obj, W.heap[r]? = some o ∧ o.isCells = false) : ErrAt W' v e p := by
  rcases h with h | h | ⟨b, h1, h2, h3, h4⟩
  · exact .inl h
  · exact .inr (.inl h)
  · exact .inr (.inr ⟨b, h1, cell_kept h2 hg hr, cell_kept h3 hg hr, h4⟩)
theorem _root_.Go.KeepsOthers.drewR {W W' : World} (h : KeepsOthers W W') : KeepsOthers W W'.drew := ⟨h.size, h.same⟩
theorem ko_below {W W' : World} (hb : Below W.heap.size W W') : KeepsOthers W W' := KeepsOthers.of_grownBy (grown_below none hb) (fun j o e => by cases e)
theorem ko_own {W W' : World} {B sz n : Nat} {e : TypeId} {v : Value} {xs : List Value} (h : W.ownsRow B e sz v n xs) (hg : W.grownBy W' v.ownBlock) : KeepsOthers W W' := KeepsOthers.of_grownBy hg (fun j o ej ho => by
  obtain ⟨c, hc⟩ := own_kind' h j ej
  rw [hc] at ho
  cases ho
  rfl)
/-- While lines are read: the results' cells, the ticks' cell, the iterator's cells; the ticks. -/
structure LSt (w : World) (g2 g3 g4 gs gp ge : Nat) (W : World) (v : Value) (rs : List RD) : Prop where
  o : OSt w W v rs
  r2 : W.heap[g2]? = some (.cells #[.slice none 0 0] 22 (0, 0))
  r3 : W.heap[g3]? = some (.cells #[.nilIface] 30 (0, 0))
  r4 : W.heap[g4]? = some (.cells #[v] 22 (0, 0))
  s : ∃ c, W.heap[gs]? = some (.cells c 9 (0, 0))
  p : ∃ c, W.heap[gp]? = some (.cells c 9 (0, 0))
  e : ∃ c, W.heap[ge]? = some (.cells c 3 (0, 0))
section
variable {w W W' : World} {g2 g3 g4 gs gp ge : Nat} {v v' : Value} {rs : List RD}
theorem OSt.turn (h : OSt w W v rs) {row : Option Nat} (hg : W.grownBy W' row) (hr : ∀ r, row = some r → w.heap.size ≤ r ∧ ∃ o : Obj, W.heap[r]? = some o ∧ o.isCells = false) : OSt w W' v rs :=
  ⟨below_own h.below hg (fun x e => (hr x e).1), keep_own h.own hg (fun r e => (hr r e).2), fun q hq => keep_own (h.rows q hq) hg (fun r e => (hr r e).2)⟩
theorem LSt.turn (h : LSt w g2 g3 g4 gs gp ge W v rs) {row : Option Nat} (hg : W.grownBy W' row) (hr : ∀ r, row = some r → w.heap.size ≤ r ∧ ∃ o : Obj, W.heap[r]? = some o ∧ o.isCells = false) : LSt w g2 g3 g4 gs gp ge W' v rs := by
  have hr' : ∀ r, row = some r → ∃ o : Obj, W.heap[r]? = some o ∧ o.isCells = false := fun r e => (hr r e).2
  exact ⟨h.o.turn hg hr, keep_cells h.r2 hg hr', keep_cells h.r3 hg hr', keep_cells h.r4 hg hr', h.s.imp fun _ k => keep_cells k hg hr', h.p.imp fun _ k => keep_cells k hg hr', h.e.imp fun _ k => keep_cells k hg hr'⟩
theorem LSt.grow (h : LSt w g2 g3 g4 gs gp ge W v rs) (hb : Below W.heap.size W W') : LSt w g2 g3 g4 gs gp ge W' v rs :=
  ⟨h.o.grow hb, grown_blk (grown_below none hb) h.r2 (by simp), grown_blk (grown_below none hb) h.r3 (by simp), grown_blk (grown_below none hb) h.r4 (by simp), h.s.imp fun _ k => grown_blk (grown_below none hb) k (by simp), h.p.imp fun _ k => grown_blk (grown_below none hb) k (by simp), h.e.imp fun _ k => grown_blk (grown_below none hb) k (by simp)⟩
theorem LSt.kp (h : LSt w g2 g3 g4 gs gp ge W v rs) (h7 : 7 < w.heap.size) (hb : Below W.heap.size W W') : Kp4 gs gp ge W W' := by
  obtain ⟨_, hs⟩ := h.s
  obtain ⟨_, hp⟩ := h.p
  obtain ⟨_, he⟩ := h.e
  exact ⟨hb.block _ (Array.getElem?_eq_some_iff.1 hs).1, hb.block _ (Array.getElem?_eq_some_iff.1 hp).1, hb.block _ (Array.getElem?_eq_some_iff.1 he).1, hb.block _ (by have := h.o.below.size; omega)⟩
theorem LSt.setS (h : LSt w g2 g3 g4 gs gp ge W v rs) (hs : w.heap.size ≤ gs) (hps : gp ≠ gs) (u : Value) : LSt w g2 g3 g4 gs gp ge (W.setCell ⟨gs, 0, none⟩ u) v rs := by
  obtain ⟨c, hc⟩ := h.s
  have ne : ∀ {g : Nat} {d : Array Value} {T : TypeId}, W.heap[g]? = some (.cells d T (0, 0)) → (9 : TypeId) ≠ T → g ≠ gs := fun hg hT e => by
    rw [e, hc] at hg
    injection hg with hg
    injection hg with _ h2 _
    exact hT h2
  have far : ∀ {g : Nat} {d : Array Value} {T : TypeId}, W.heap[g]? = some (.cells d T (0, 0)) → g ≠ gs → (W.setCell ⟨gs, 0, none⟩ u).heap[g]? = some (.cells d T (0, 0)) := fun hg e => (Below.heap_setCell W ⟨gs, 0, none⟩ u _ e).trans hg
  obtain ⟨cp, hp⟩ := h.p
  obtain ⟨ce, he⟩ := h.e
  exact ⟨h.o.set hc (by decide) (by decide) hs 0 u, far h.r2 (ne h.r2 (by decide)), far h.r3 (ne h.r3 (by decide)), far h.r4 (ne h.r4 (by decide)), ⟨_, set_block hc⟩, ⟨cp, far hp hps⟩, ⟨ce, far he (ne he (by decide))⟩⟩
/-- A row more: the append, and the store into the ticks' cell. -/
theorem LSt.more (h : LSt w g2 g3 g4 gs gp ge W v rs) (q : RD) (hq : W.ownsRow w.heap.size 2 1 q.v q.n (q.xs.map (Value.int .i64))) (hg : W.grownBy W' v.ownBlock) (ho : W'.ownsRow w.heap.size 36 1 v' (rs.length + 1) (rs.map RD.v ++ [q.v])) (h4 : w.heap.size ≤ g4) (h24 : g2 ≠ g4) :
    LSt w g2 g3 g4 gs gp ge (W'.setCell ⟨g4, 0, none⟩ v') v' (rs ++ [q]) := by
  have far : ∀ {g : Nat} {d : Array Value} {T : TypeId}, W.heap[g]? = some (.cells d T (0, 0)) → (36 : TypeId) ≠ T → W'.heap[g]? = some (.cells d T (0, 0)) := fun {g d T} hx hT => grown_blk hg hx (fun e => by
    rcases own_not h.o.own hx hT with k | k
    · rw [k] at e; cases e
    · exact k e.symm)
  have r4' := far h.r4 (by decide)
  have ne : ∀ {g : Nat} {d : Array Value} {T : TypeId}, W.heap[g]? = some (.cells d T (0, 0)) → (22 : TypeId) ≠ T → g ≠ g4 := fun hx hT e => by
    rw [e, h.r4] at hx
    injection hx with hx
    injection hx with _ h2 _
    exact hT h2
  have far2 : ∀ {g : Nat} {d : Array Value} {T : TypeId}, W.heap[g]? = some (.cells d T (0, 0)) → (36 : TypeId) ≠ T → g ≠ g4 → (W'.setCell ⟨g4, 0, none⟩ v').heap[g]? = some (.cells d T (0, 0)) := fun hx hT e => (Below.heap_setCell W' ⟨g4, 0, none⟩ v' _ e).trans (far hx hT)
  obtain ⟨cs, hs⟩ := h.s
  obtain ⟨cp, hp⟩ := h.p
  obtain ⟨ce, he⟩ := h.e
  have o2 := h.o.append q hq hg ho
  exact ⟨o2.set r4' (by decide) (by decide) h4 0 v', far2 h.r2 (by decide) h24, far2 h.r3 (by decide) (ne h.r3 (by decide)), set_block r4', ⟨cs, far2 hs (by decide) (ne hs (by decide))⟩, ⟨cp, far2 hp (by decide) (ne hp (by decide))⟩, ⟨ce, far2 he (by decide) (ne he (by decide))⟩⟩
theorem LSt.r4after (h : LSt w g2 g3 g4 gs gp ge W v rs) (hg : W.grownBy W' v.ownBlock) : W'.heap[g4]? = some (.cells #[v] 22 (0, 0)) := grown_blk hg h.r4 (fun e => by
  rcases own_not h.o.own h.r4 (by decide) with k | k
  · rw [k] at e; cases e
  · exact k e.symm)
theorem blk_old {w : World} {g : Nat} {o : Obj} (o' : Obj) (h : w.heap[g]? = some o) : (w.alloc o').heap[g]? = some o := grown_blk (World.grownBy_alloc w o' none) h (by simp)
/-- A line is none. -/
theorem LSt.bad (h : LSt w g2 g3 g4 gs gp ge W' v rs) (hK : KeepsOthers W W') (h2 : w.heap.size ≤ g2) (h3 : g2 < g3) (k : Int) :
    KeepsOthers W (((W'.setCell ⟨g2, 0, none⟩ (.slice none 0 0)).setCell ⟨g3, 0, none⟩ (.iface 52 (.pointer (some ⟨W'.heap.size, 0, none⟩)))).alloc (.cells #[.int .i64 3, .int .i64 k] 53)).drew ∧
    (((W'.setCell ⟨g2, 0, none⟩ (.slice none 0 0)).setCell ⟨g3, 0, none⟩ (.iface 52 (.pointer (some ⟨W'.heap.size, 0, none⟩)))).alloc (.cells #[.int .i64 3, .int .i64 k] 53)).drew.heap[g2]? = some (.cells #[.slice none 0 0] 22 (0, 0)) ∧
    (((W'.setCell ⟨g2, 0, none⟩ (.slice none 0 0)).setCell ⟨g3, 0, none⟩ (.iface 52 (.pointer (some ⟨W'.heap.size, 0, none⟩)))).alloc (.cells #[.int .i64 3, .int .i64 k] 53)).drew.heap[g3]? = some (.cells #[.iface 52 (.pointer (some ⟨W'.heap.size, 0, none⟩))] 30 (0, 0)) ∧
    ErrAt (((W'.setCell ⟨g2, 0, none⟩ (.slice none 0 0)).setCell ⟨g3, 0, none⟩ (.iface 52 (.pointer (some ⟨W'.heap.size, 0, none⟩)))).alloc (.cells #[.int .i64 3, .int .i64 k] 53)).drew (.iface 52 (.pointer (some ⟨W'.heap.size, 0, none⟩))) 3 k ∧
    Below w.heap.size w (((W'.setCell ⟨g2, 0, none⟩ (.slice none 0 0)).setCell ⟨g3, 0, none⟩ (.iface 52 (.pointer (some ⟨W'.heap.size, 0, none⟩)))).alloc (.cells #[.int .i64 3, .int .i64 k] 53)).drew := by
  obtain ⟨X, hX⟩ : ∃ X, X = (W'.setCell ⟨g2, 0, none⟩ (.slice none 0 0)).setCell ⟨g3, 0, none⟩ (.iface 52 (.pointer (some ⟨W'.heap.size, 0, none⟩))) := ⟨_, rfl⟩
  have hs : X.heap.size = W'.heap.size := by rw [hX]; simp
  have a2 : X.heap[g2]? = some (.cells #[.slice none 0 0] 22 (0, 0)) := by
    rw [hX]
    exact (Below.heap_setCell _ ⟨g3, 0, none⟩ _ g2 (by show g2 ≠ g3; omega)).trans (set_block h.r2)
  have a3 : X.heap[g3]? = some (.cells #[.iface 52 (.pointer (some ⟨W'.heap.size, 0, none⟩))] 30 (0, 0)) := by
    rw [hX]
    exact set_block ((Below.heap_setCell _ ⟨g2, 0, none⟩ _ g3 (by show g3 ≠ g2; omega)).trans h.r3)
  have aK : KeepsOthers W X := by rw [hX]; exact (hK.trans (KeepsOthers.setCell _ _ _)).trans (KeepsOthers.setCell _ _ _)
  have aB : Below w.heap.size w X := by rw [hX]; exact below_grow (below_grow h.o.below (set_grown _ g2 0 _) h2) (set_grown _ g3 0 _) (by omega)
  rw [← hX]
  have hn := heap_alloc_new X (.cells #[.int .i64 3, .int .i64 k] 53)
  rw [hs] at hn
  refine ⟨(aK.trans (KeepsOthers.alloc X (.cells #[.int .i64 3, .int .i64 k] 53)) : KeepsOthers W (X.alloc (.cells #[.int .i64 3, .int .i64 k] 53))).drewR, blk_old _ a2, blk_old _ a3, .inr (.inr ⟨_, rfl, ?_, ?_, by decide⟩), (aB.alloc aB.size _).drew⟩
  · show (X.alloc _).cell? _ = _
    simp [World.cell?, hn]
  · show (X.alloc _).cell? _ = _
    simp [World.cell?, hn]
/-- Too many lines. -/
theorem LSt.lim (h : LSt w g2 g3 g4 gs gp ge W' v rs) (hK : KeepsOthers W W') (h2 : w.heap.size ≤ g2) (h3 : g2 < g3) :
    KeepsOthers W ((W'.setCell ⟨g2, 0, none⟩ (.slice none 0 0)).setCell ⟨g3, 0, none⟩ (.iface 24 (.int .i64 4))) ∧
    ((W'.setCell ⟨g2, 0, none⟩ (.slice none 0 0)).setCell ⟨g3, 0, none⟩ (.iface 24 (.int .i64 4))).heap[g2]? = some (.cells #[.slice none 0 0] 22 (0, 0)) ∧
    ((W'.setCell ⟨g2, 0, none⟩ (.slice none 0 0)).setCell ⟨g3, 0, none⟩ (.iface 24 (.int .i64 4))).heap[g3]? = some (.cells #[.iface 24 (.int .i64 4)] 30 (0, 0)) ∧
    ErrAt ((W'.setCell ⟨g2, 0, none⟩ (.slice none 0 0)).setCell ⟨g3, 0, none⟩ (.iface 24 (.int .i64 4))) (.iface 24 (.int .i64 4)) 4 (-1) ∧
    Below w.heap.size w ((W'.setCell ⟨g2, 0, none⟩ (.slice none 0 0)).setCell ⟨g3, 0, none⟩ (.iface 24 (.int .i64 4))) :=
  ⟨(hK.trans (KeepsOthers.setCell _ _ _)).trans (KeepsOthers.setCell _ _ _), (Below.heap_setCell _ ⟨g3, 0, none⟩ _ g2 (by show g2 ≠ g3; omega)).trans (set_block h.r2),
    set_block ((Below.heap_setCell _ ⟨g2, 0, none⟩ _ g3 (by show g3 ≠ g2; omega)).trans h.r3), .inr (.inl ⟨rfl, rfl, by decide⟩), below_grow (below_grow h.o.below (set_grown _ g2 0 _) h2) (set_grown _ g3 0 _) (by omega)⟩
/-- Behind it what the iterator reads lies as it lay. -/
theorem LSt.moreKp (h : LSt w g2 g3 g4 gs gp ge W v rs) (h7 : 7 < w.heap.size) (hg : W.grownBy W' v.ownBlock) (h4 : w.heap.size ≤ g4) : Kp4 gs gp ge W (W'.setCell ⟨g4, 0, none⟩ v') := by
  have far : ∀ {g : Nat} {d : Array Value} {T : TypeId}, W.heap[g]? = some (.cells d T (0, 0)) → (36 : TypeId) ≠ T → W'.heap[g]? = W.heap[g]? := fun {g d T} hx hT => hg.block g (Array.getElem?_eq_some_iff.1 hx).1 (fun e => by
    rcases own_not h.o.own hx hT with k | k
    · rw [k] at e; cases e
    · exact k e.symm)
  have ne : ∀ {g : Nat} {d : Array Value} {T : TypeId}, W.heap[g]? = some (.cells d T (0, 0)) → (22 : TypeId) ≠ T → g ≠ g4 := fun hx hT e => by
    rw [e, h.r4] at hx
    injection hx with hx
    injection hx with _ h2 _
    exact hT h2
  obtain ⟨cs, hs⟩ := h.s
  obtain ⟨cp, hp⟩ := h.p
  obtain ⟨ce, he⟩ := h.e
  exact ⟨(Below.heap_setCell W' ⟨g4, 0, none⟩ v' _ (ne hs (by decide))).trans (far hs (by decide)), (Below.heap_setCell W' ⟨g4, 0, none⟩ v' _ (ne hp (by decide))).trans (far hp (by decide)), (Below.heap_setCell W' ⟨g4, 0, none⟩ v' _ (ne he (by decide))).trans (far he (by decide)),
    (Below.heap_setCell W' ⟨g4, 0, none⟩ v' 7 (by show 7 ≠ g4; omega)).trans (hg.block 7 (by have := h.o.below.size; omega) (fun e => by have := (own_lt' h.o.own 7 e.symm).1; omega))⟩
end
/-- FieldsFunc at the blank. -/
theorem blank_any (x : Nat) (W : World) : FnGives Tryz.prog 18 #[] #[encR x] (.bool (x == 32)) W := by
  unfold FnGives
  show Calls Tryz.prog 18 #[.int .i32 (x : Int)] W _
  go_enter Tryz.func18, Tryz.ntmps18
  go_wp2
  have e : (((x : Nat) : Int) == 32) = (x == 32) := by
    rw [Bool.eq_iff_iff, beq_iff_eq, beq_iff_eq]
    omega
  rw [e]
  go_ret
  exact ⟨rfl, 0, rfl⟩
theorem fields_any (x : ByteArray) (hx : x.size ≤ 1500) (W : World) : Calls Tryz.prog 17 #[.string x, .func (.func 18) #[] #[]] W fun e w' => ∃ A n c, e = .returned (.slice A n c) ∧ n ≤ 1501 ∧ StrsAt w' A n (wordsV x) ∧ Below W.heap.size W w' := by
  refine (Tryz.strings_FieldsFunc 18 #[] (enters_of Tryz.func18 (by kernel_rfl) rfl) (fun r => r == 32) x W (by omega) (fun W' y _ => blank_any y W')).mono fun e w' h => ?_
  obtain ⟨A, rfl, _, h2, h3⟩ := h
  rw [goFields_words] at h2 ⊢
  have hl := words_len x
  unfold wordsV at hl
  exact ⟨_, _, _, rfl, by omega, (own_strs h2).2, h3⟩
end Go.Proofs.YtgglbjniclkkpaaGreatDoor

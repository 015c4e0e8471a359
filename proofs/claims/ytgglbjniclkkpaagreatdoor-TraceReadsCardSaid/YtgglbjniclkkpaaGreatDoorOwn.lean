/-
  Rows of the call's own: small laws.
-/
import Derived.Test.YtgglbjniclkkpaaGreatDoorConv
import Derived.OneCell
import Derived.OwnWalk
namespace Go.Proofs.YtgglbjniclkkpaaGreatDoor
open Go.RowKit
set_option linter.unusedVariables false

theorem grown_refl (w : World) (r : Option Nat) : w.grownBy w r := ⟨rfl, rfl, rfl, Nat.le_refl _, fun _ _ _ => rfl⟩
theorem grown_set {a b : World} {g o : Nat} (h : a.grownBy b (some g)) (v : Value) : a.grownBy (b.setCell ⟨g, o, none⟩ v) (some g) :=
  ⟨h.os, h.tape, h.output, Nat.le_trans h.size (by simp), fun i hi hr => (Below.heap_setCell _ _ _ _ (fun e => hr (by rw [e]))).trans (h.block i hi hr)⟩
theorem below_grown {a b : World} {g B : Nat} (h : a.grownBy b (some g)) (hg : B ≤ g) (hB : B ≤ a.heap.size) : Below B a b :=
  ⟨h.os, h.tape, h.output, h.size, fun i hi => h.block i (Nat.lt_of_lt_of_le hi hB) (by simp; omega)⟩
theorem own_slice {w : World} {B n : Nat} {e : TypeId} {v : Value} {xs : List Value} (h : w.ownsRow B e 1 v n xs) : ∃ A c, v = .slice A n c := by
  rcases h.2 with ⟨rfl, rfl⟩ | ⟨g, cap, cur, rfl, _⟩
  · exact ⟨_, _, rfl⟩
  · exact ⟨_, _, rfl⟩
theorem own_slice' {w : World} {B n : Nat} {e : TypeId} {v : Value} {xs : List Value} (h : w.ownsRow B e 1 v n xs) : ∃ A c, v = .slice A n c := by
  rcases h.2 with ⟨rfl, rfl⟩ | ⟨g, cap, cur, rfl, _⟩
  · exact ⟨_, _, rfl⟩
  · exact ⟨_, _, rfl⟩
theorem grown_below {a b : World} (r : Option Nat) (h : Below a.heap.size a b) : a.grownBy b r := ⟨h.os, h.tape, h.output, h.size, fun i hi _ => h.block i hi⟩
theorem own_kind' {w : World} {B sz : Nat} {e : TypeId} {v : Value} {n : Nat} {xs : List Value} (h : w.ownsRow B e sz v n xs) : ∀ g, v.ownBlock = some g → ∃ c, w.heap[g]? = some (.cells c e (0, 0)) := by
  intro g hg
  rcases h.2 with ⟨rfl, _⟩ | ⟨g', cap, cur, rfl, _, hgg, _⟩
  · simp [Value.ownBlock] at hg
  · simp [Value.ownBlock] at hg
    subst hg
    exact ⟨cur, hgg⟩
theorem own_not {w : World} {B sz : Nat} {e T : TypeId} {v : Value} {n x : Nat} {xs : List Value} {c : Array Value} (h : w.ownsRow B e sz v n xs) (hx : w.heap[x]? = some (.cells c T (0, 0))) (ht : e ≠ T) : v.ownBlock = none ∨ v.ownBlock ≠ some x := by
  right
  intro hh
  obtain ⟨c', h2⟩ := own_kind' h x hh
  rw [hx] at h2
  cases h2
  exact ht rfl
theorem own_lt' {w : World} {B sz : Nat} {e : TypeId} {v : Value} {n : Nat} {xs : List Value} (h : w.ownsRow B e sz v n xs) : ∀ g, v.ownBlock = some g → B ≤ g ∧ g < w.heap.size := by
  intro g hg
  rcases h.2 with ⟨rfl, _⟩ | ⟨g', cap, cur, rfl, hb, hgg, _⟩
  · simp [Value.ownBlock] at hg
  · simp [Value.ownBlock] at hg
    subst hg
    exact ⟨hb, (Array.getElem?_eq_some_iff.1 hgg).1⟩
theorem own_base {w : World} {B B' sz : Nat} {e : TypeId} {v : Value} {n : Nat} {xs : List Value} (h : w.ownsRow B e sz v n xs) (hb : B' ≤ B) : w.ownsRow B' e sz v n xs := by
  refine ⟨h.1, ?_⟩
  rcases h.2 with h | ⟨g, cap, cur, e1, e2, e3⟩
  · exact .inl h
  · exact .inr ⟨g, cap, cur, e1, Nat.le_trans hb e2, e3⟩
theorem set_block {w : World} {g i : Nat} {cs : Array Value} {T : TypeId} {v : Value} (h : w.heap[g]? = some (.cells cs T (0, 0))) : (w.setCell ⟨g, i, none⟩ v).heap[g]? = some (.cells (cs.setIfInBounds i v) T (0, 0)) := by
  obtain ⟨hlt, h'⟩ := Array.getElem?_eq_some_iff.1 h
  show (w.heap.modify g _)[g]? = _
  rw [Array.getElem?_eq_getElem (by simpa using hlt), Array.getElem_modify_self, h']
  rfl
theorem set_grown (w : World) (g i : Nat) (v : Value) : w.grownBy (w.setCell ⟨g, i, none⟩ v) (some g) := grown_set (grown_refl w _) v
theorem grown_blk {w w' : World} {r : Option Nat} {g : Nat} {o : Obj} (h : w.grownBy w' r) (hb : w.heap[g]? = some o) (hr : some g ≠ r) : w'.heap[g]? = some o :=
  (h.block g (Array.getElem?_eq_some_iff.1 hb).1 hr).trans hb
theorem grown_cell {w w' : World} {r : Option Nat} {b o : Nat} {v : Value} (h : w.grownBy w' r) (hc : w.cell? ⟨b, o, none⟩ = some v) (hr : some b ≠ r) : w'.cell? ⟨b, o, none⟩ = some v := by
  have hlt := World.block_lt_of_cell? w _ hc
  unfold World.cell? at *
  rw [h.block b hlt hr]
  exact hc
theorem below_grow {w wr w' : World} {x : Nat} (h : Below w.heap.size w wr) (hg : wr.grownBy w' (some x)) (hx : w.heap.size ≤ x) : Below w.heap.size w w' :=
  h.trans (below_grown hg hx h.size)
theorem below_own {w wr w' : World} {r : Option Nat} (h : Below w.heap.size w wr) (hg : wr.grownBy w' r) (hx : ∀ x, r = some x → w.heap.size ≤ x) : Below w.heap.size w w' := by
  rcases r with _ | x
  · exact ⟨hg.os.trans h.os, hg.tape.trans h.tape, hg.output.trans h.output, Nat.le_trans h.size hg.size, fun k hk => (hg.block k (Nat.lt_of_lt_of_le hk h.size) (by simp)).trans (h.block k hk)⟩
  · exact below_grow h hg (hx x rfl)
theorem blk_free {w : World} {g : Nat} {cs : Array Value} {T : TypeId} (h : w.heap[g]? = some (.cells cs T (0, 0))) (o : Nat) : w.frozen? ⟨g, o, none⟩ = false := by simp [World.frozen?, h]
theorem own_cap {w : World} {B n l c sz : Nat} {e : TypeId} {A : Option Addr} {xs : List Value} (h : w.ownsRow B e sz (.slice A l c) n xs) : n ≤ c := by
  rcases h.2 with ⟨hv, hn⟩ | ⟨g, cap, cur, hv, hb, hgg, hle, hm, hs, ht⟩
  · omega
  · cases hv; exact hle
theorem own_ints {w : World} {B n : Nat} {e : TypeId} {A : Option Addr} {l c : Nat} {xs : List Int} (h : w.ownsRow B e 1 (.slice A l c) n (xs.map (Value.int .i64))) : n = l ∧ IntsAt w A n xs ∧ (0 < n → ∃ b C, A = some ⟨b, 0, none⟩ ∧ w.heap[b]? = some (.cells C e (0, 0))) := by
  obtain ⟨h1, h2⟩ := h
  have hl : xs.length = n := by simpa using h1
  rcases h2 with ⟨hv, hn⟩ | ⟨g, cap, cur, hv, hb, hgg, hle, hm, hs, ht⟩
  · cases hv
    exact ⟨hn, ⟨hl, fun h => absurd h (by omega)⟩, fun h => absurd h (by omega)⟩
  · cases hv
    refine ⟨rfl, ⟨hl, fun hn => ⟨g, 0, rfl, fun j hj => ?_⟩⟩, fun hn => ⟨g, cur, rfl, hgg⟩⟩
    have hj2 : (xs.map (Value.int .i64))[j]? = some (.int .i64 (xs.getD j 0)) := by
      rw [List.getElem?_map, List.getD_eq_getElem?_getD, List.getElem?_eq_getElem (by omega)]
      rfl
    rw [← ht, List.getElem?_take] at hj2
    split at hj2
    · rw [Nat.zero_add, cell_of_row w g j cur e (0, 0) hgg]
      simpa using hj2
    · cases hj2
theorem row_kept {w w' : World} {B n : Nat} {e : TypeId} {v : Value} {xs : List Value} {r : Option Nat} (h : w.ownsRow B e 1 v n xs) (hg : w.grownBy w' r) (hr : ∀ x, r = some x → x < B) : w'.ownsRow B e 1 v n xs := by
  refine h.kept hg ?_
  rcases hv : v.ownBlock with _ | y
  · exact .inl rfl
  · right
    intro e
    have h1 := (own_lt' h y hv).1
    have h2 := hr y e.symm
    omega
theorem row_grow2 {w w' : World} {B n : Nat} {e : TypeId} {v : Value} {xs : List Value} (h : w.ownsRow B e 1 v n xs) (hb : Below w.heap.size w w') : w'.ownsRow B e 1 v n xs := h.kept (grown_below none hb) (by cases v.ownBlock <;> simp)
end Go.Proofs.YtgglbjniclkkpaaGreatDoor

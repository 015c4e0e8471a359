/-
  Ticks, plainly; and while ticks are read.
-/
import Derived.Test.YtgglbjniclkkpaaGreatDoorWords
namespace Go.Proofs.YtgglbjniclkkpaaGreatDoor
open Go.RowKit
set_option linter.unusedVariables false

/-- A tick's inputs, by its words. -/
def rowGo : List Int → List ByteArray → Option (List Int)
  | acc, [] => some acc
  | acc, x :: r => match numV x with
    | none => none
    | some v => rowGo (acc ++ [v]) r
/-- Ticks, by their lines: they, and what is wrong, and where. -/
def ticksGo : List (List Int) → List ByteArray → List (List Int) × Int × Int
  | out, [] => (out, 0, -1)
  | out, l :: r => match rowGo [] (wordsV l) with
    | none => ([], 3, out.length)
    | some row => if 60 ≤ out.length then ([], 4, -1) else ticksGo (out ++ [row]) r
def readV (s : ByteArray) : List (List Int) × Int × Int := if s = ⟨#[]⟩ then ([], 0, -1) else ticksGo [] (linesV s)
/-- The slice at A, of n lists, holds R. -/
def TicksAt (w : World) (A : Option Addr) (n : Nat) (R : List (List Int)) : Prop :=
  R.length = n ∧ (0 < n → ∃ b o, A = some ⟨b, o, none⟩ ∧ ∀ j, j < n → ∃ B l c xs, R[j]? = some xs ∧ w.cell? ⟨b, o + j, none⟩ = some (.slice B l c) ∧ IntsAt w B l xs)
theorem TicksAt.up {w W : World} {A : Option Addr} {n : Nat} {R : List (List Int)} (h : TicksAt w A n R) (hb : Below w.heap.size w W) : TicksAt W A n R :=
  ⟨h.1, fun hn => by
    obtain ⟨b, o, e, hc⟩ := h.2 hn
    refine ⟨b, o, e, fun j hj => ?_⟩
    obtain ⟨B, l, c, xs, h1, h2, h3⟩ := hc j hj
    exact ⟨B, l, c, xs, h1, cell_up hb h2, h3.up hb⟩⟩
theorem TicksAt.nil (w : World) : TicksAt w none 0 [] := ⟨rfl, fun h => absurd h (by omega)⟩
/-- A row that is read. -/
structure RD where
  A : Option Addr
  n : Nat
  c : Nat
  xs : List Int
def RD.v (q : RD) : Value := .slice q.A q.n q.c
/-- While ticks are read. -/
structure OSt (W w : World) (v : Value) (rs : List RD) : Prop where
  below : Below W.heap.size W w
  own : w.ownsRow W.heap.size 36 1 v rs.length (rs.map RD.v)
  rows : ∀ q ∈ rs, w.ownsRow W.heap.size 2 1 q.v q.n (q.xs.map (Value.int .i64))
section
variable {W w w' : World} {v v' : Value} {rs : List RD}
theorem OSt.nil (W : World) : OSt W W (.slice none 0 0) [] := ⟨Below.refl _ _, World.ownsRow_nil _ _ _ _, fun q hq => by cases hq⟩
theorem OSt.grow (h : OSt W w v rs) (hb : Below w.heap.size w w') : OSt W w' v rs :=
  ⟨below_up h.below hb, row_grow2 h.own hb, fun q hq => row_grow2 (h.rows q hq) hb⟩
theorem OSt.apart (h : OSt W w v rs) {q : RD} (hq : w.ownsRow W.heap.size 2 1 q.v q.n (q.xs.map (Value.int .i64))) : q.v.ownBlock = none ∨ q.v.ownBlock ≠ v.ownBlock := by
  rcases hv : v.ownBlock with _ | x
  · cases q.v.ownBlock <;> simp
  · obtain ⟨c, hc⟩ := own_kind' h.own x hv
    exact own_not hq hc (by decide)
theorem OSt.append (h : OSt W w v rs) (q : RD) (hq : w.ownsRow W.heap.size 2 1 q.v q.n (q.xs.map (Value.int .i64))) (hg : w.grownBy w' v.ownBlock) (ho : w'.ownsRow W.heap.size 36 1 v' (rs.length + 1) (rs.map RD.v ++ [q.v])) : OSt W w' v' (rs ++ [q]) :=
  ⟨below_own h.below hg (fun x e => (own_lt' h.own x e).1), by rw [List.length_append, List.map_append]; exact ho, fun p hp => by
    rcases List.mem_append.1 hp with hp | hp
    · exact (h.rows p hp).kept hg (h.apart (h.rows p hp))
    · obtain rfl : p = q := by simpa using hp
      exact hq.kept hg (h.apart hq)⟩
theorem OSt.base {B : World} (h : OSt W w v rs) (hb : Below B.heap.size B W) : OSt B w v rs :=
  ⟨below_up hb h.below, own_base h.own hb.size, fun q hq => own_base (h.rows q hq) hb.size⟩
theorem OSt.set (h : OSt W w v rs) {g : Nat} {c : Array Value} {T : TypeId} (hx : w.heap[g]? = some (.cells c T (0, 0))) (h1 : (36 : TypeId) ≠ T) (h2 : (2 : TypeId) ≠ T) (hg : W.heap.size ≤ g) (i : Nat) (u : Value) : OSt W (w.setCell ⟨g, i, none⟩ u) v rs :=
  ⟨below_grow h.below (set_grown w g i u) hg, h.own.kept (set_grown w g i u) (by rcases own_not h.own hx h1 with h | h <;> simp [h]), fun q hq => (h.rows q hq).kept (set_grown w g i u) (by rcases own_not (h.rows q hq) hx h2 with h | h <;> simp [h])⟩
theorem OSt.drew (h : OSt W w v rs) : OSt W w.drew v rs := ⟨h.below.drew, h.own, h.rows⟩
theorem OSt.ticks {A : Option Addr} {l c : Nat} (h : OSt W w (.slice A l c) rs) : rs.length = l ∧ TicksAt w A l (rs.map RD.xs) := by
  obtain ⟨h1, h2⟩ := h.own
  rcases h2 with ⟨hv, hn⟩ | ⟨g, cap, cur, hv, hb, hgg, hle, hm, hs, ht⟩
  · cases hv
    exact ⟨hn, by simpa using hn, fun h => absurd h (by omega)⟩
  · cases hv
    refine ⟨rfl, by simp, fun hn => ⟨g, 0, rfl, fun j hj => ⟨rs[j].A, rs[j].n, rs[j].c, rs[j].xs, by simp [List.getElem?_eq_getElem hj], ?_, ?_⟩⟩⟩
    · have hj2 : (rs.map RD.v)[j]? = some rs[j].v := by
        rw [List.getElem?_map, List.getElem?_eq_getElem hj]
        rfl
      rw [← ht, List.getElem?_take] at hj2
      split at hj2
      · rw [Nat.zero_add, cell_of_row w g j cur 36 (0, 0) hgg]
        simpa [RD.v] using hj2
      · cases hj2
    · have hq := h.rows rs[j] (List.getElem_mem hj)
      exact (own_ints (A := rs[j].A) (l := rs[j].n) (c := rs[j].c) hq).2.1
end
theorem pieces_size (c : UInt8) : ∀ (l cur x : List UInt8), x ∈ piecesGo c cur l → x.length ≤ cur.length + l.length
  | [], cur, x, h => by
    rw [piecesGo] at h
    obtain rfl : x = cur := by simpa using h
    omega
  | b :: r, cur, x, h => by
    rw [piecesGo] at h
    split at h
    · rcases List.mem_cons.1 h with rfl | h
      · omega
      · have := pieces_size c r [] x h
        simp at this ⊢
        omega
    · have := pieces_size c r (cur ++ [b]) x h
      simp at this ⊢
      omega
theorem piece_size {c : UInt8} {s x : ByteArray} (h : x ∈ piecesV c s) : x.size ≤ s.size := by
  unfold piecesV at h
  obtain ⟨l, hl, rfl⟩ := List.mem_map.1 h
  have h1 := pieces_size c _ _ l hl
  have h2 : s.data.toList.length = s.size := by simp
  have h3 : (ofL l).size = l.length := by show l.toArray.size = _; simp
  simp only [List.length_nil] at h1
  omega
theorem line_size {s x : ByteArray} (h : x ∈ linesV s) : x.size ≤ s.size := by
  unfold linesV at h
  split at h
  · exact piece_size (List.dropLast_subset _ h)
  · exact piece_size h
theorem word_size {s x : ByteArray} (h : x ∈ wordsV s) : x.size ≤ s.size := by
  rw [← words_filter] at h
  exact piece_size (List.mem_filter.1 h).1
theorem infoRow : (Tryz.prog.info? 36).map (fun i => (i.zero, i.size, i.bytes)) = some (some (.slice none 0 0), 1, 24) := by kernel_rfl
theorem infoI : (Tryz.prog.info? 2).map (fun i => (i.zero, i.size, i.bytes)) = some (some (.int .i64 0), 1, 8) := by kernel_rfl
end Go.Proofs.YtgglbjniclkkpaaGreatDoor

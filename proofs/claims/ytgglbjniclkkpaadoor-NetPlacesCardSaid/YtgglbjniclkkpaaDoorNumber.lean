/-
  The readers' number: (*image.reader).number.
-/
import Derived.Test.YtgglbjniclkkpaaDoorGet
import Derived.Test.YtgglbjniclkkpaaDoorPut
import Derived.OneCell
import Derived.Deep.RegionHeld3
namespace Go.Proofs.YtgglbjniclkkpaaDoor
open Go.RowKit
set_option linter.unusedVariables false

/-- A reader lies at block a: what is left to read, and whether it is spoilt. -/
def RdAt (w : World) (a : Nat) (T : TypeId) (s : ByteArray) (bad : Bool) : Prop := w.heap[a]? = some (.cells #[.string s, .bool bad] T (0, 0))
theorem RdAt.lt {w : World} {a : Nat} {T : TypeId} {s : ByteArray} {bad : Bool} (h : RdAt w a T s bad) : a < w.heap.size := lt_of_block h
theorem RdAt.c0 {w : World} {a : Nat} {T : TypeId} {s : ByteArray} {bad : Bool} (h : RdAt w a T s bad) : w.cell? ⟨a, 0, none⟩ = some (.string s) := by unfold RdAt at h; simp [World.cell?, h]
theorem RdAt.c1 {w : World} {a : Nat} {T : TypeId} {s : ByteArray} {bad : Bool} (h : RdAt w a T s bad) : w.cell? ⟨a, 1, none⟩ = some (.bool bad) := by unfold RdAt at h; simp [World.cell?, h]
theorem RdAt.f0 {w : World} {a : Nat} {T : TypeId} {s : ByteArray} {bad : Bool} (h : RdAt w a T s bad) (o : Nat) : w.frozen? ⟨a, o, none⟩ = false := by unfold RdAt at h; simp [World.frozen?, h]
theorem RdAt.set0 {w : World} {a : Nat} {T : TypeId} {s t : ByteArray} {bad : Bool} (h : RdAt w a T s bad) : RdAt (w.setCell ⟨a, 0, none⟩ (.string t)) a T t bad := by
  have hlt := h.lt
  unfold RdAt at *
  have h' : w.heap[a] = .cells #[.string s, .bool bad] T (0, 0) := by simpa [Array.getElem?_eq_getElem hlt] using h
  show (w.heap.modify a _)[a]? = _
  rw [Array.getElem?_eq_getElem (by simpa using hlt), Array.getElem_modify_self, h']
  rfl
theorem RdAt.set1 {w : World} {a : Nat} {T : TypeId} {s : ByteArray} {bad b : Bool} (h : RdAt w a T s bad) : RdAt (w.setCell ⟨a, 1, none⟩ (.bool b)) a T s b := by
  have hlt := h.lt
  unfold RdAt at *
  have h' : w.heap[a] = .cells #[.string s, .bool bad] T (0, 0) := by simpa [Array.getElem?_eq_getElem hlt] using h
  show (w.heap.modify a _)[a]? = _
  rw [Array.getElem?_eq_getElem (by simpa using hlt), Array.getElem_modify_self, h']
  rfl
theorem RdAt.heap {w w' : World} {a : Nat} {T : TypeId} {s : ByteArray} {bad : Bool} (h : RdAt w a T s bad) (hh : w'.heap = w.heap) : RdAt w' a T s bad := by unfold RdAt at *; rw [hh]; exact h
theorem RdAt.up {w w' : World} {a : Nat} {T : TypeId} {s : ByteArray} {bad : Bool} (h : RdAt w a T s bad) (hb : Below w.heap.size w w') : RdAt w' a T s bad := (hb.block a h.lt).trans h
/-! ### all but one block is as it was -/
theorem grown_refl (w : World) (r : Option Nat) : w.grownBy w r := ⟨rfl, rfl, rfl, Nat.le_refl _, fun _ _ _ => rfl⟩
theorem grown_trans {a b c : World} {r : Option Nat} (h : a.grownBy b r) (k : b.grownBy c r) : a.grownBy c r :=
  ⟨k.os.trans h.os, k.tape.trans h.tape, k.output.trans h.output, Nat.le_trans h.size k.size, fun i hi hr => (k.block i (Nat.lt_of_lt_of_le hi h.size) hr).trans (h.block i hi hr)⟩
theorem grown_below {a b : World} (r : Option Nat) (h : Below a.heap.size a b) : a.grownBy b r := ⟨h.os, h.tape, h.output, h.size, fun i hi _ => h.block i hi⟩
theorem grown_set {a b : World} {g o : Nat} (h : a.grownBy b (some g)) (v : Value) : a.grownBy (b.setCell ⟨g, o, none⟩ v) (some g) :=
  ⟨h.os, h.tape, h.output, Nat.le_trans h.size (by simp), fun i hi hr => (Below.heap_setCell _ _ _ _ (fun e => hr (by rw [e]))).trans (h.block i hi hr)⟩
theorem below_grown {a b : World} {g B : Nat} (h : a.grownBy b (some g)) (hg : B ≤ g) (hB : B ≤ a.heap.size) : Below B a b :=
  ⟨h.os, h.tape, h.output, h.size, fun i hi => h.block i (Nat.lt_of_lt_of_le hi hB) (by simp; omega)⟩
/-- A number is read. -/
def NumR (T : TypeId) (a : Nat) (s : ByteArray) (bad : Bool) (w : World) (r : Ending) (w' : World) : Prop :=
  ∃ (n : Int) (t : ByteArray) (bad' : Bool), r = .returned (.int .i64 n) ∧ okN n ∧ RdAt w' a T t bad' ∧ t.size ≤ s.size ∧ w.grownBy w' (some a) ∧
    (bad' = false → bad = false ∧ getV s.data.toList = some (n, t.data.toList)) ∧ (bad' = true → bad = true ∨ getV s.data.toList = none)
set_option maxHeartbeats 2000000 in
set_option maxRecDepth 100000 in
theorem number_any (a : Nat) (s : ByteArray) (bad : Bool) (hs : s.size ≤ 1500) (w : World) (h : RdAt w a 102 s bad) : Calls Tryd.prog 78 #[.pointer (some ⟨a, 0, none⟩)] w (NumR 102 a s bad w) := by
  have HG := Lib.hid (get_any s hs w)
  have c0 := h.c0
  have H := Lib.hid h
  clear h
  cases bad
  all_goals
    go_enter Tryd.func78, Tryd.ntmps78
    go_wp2_with (go_at_call 88; refine HG.out.mono ?_; rintro r w1 ⟨n, t, ok, rfl, hn, hget, hts, hheap, hb⟩; have R1 := Lib.hid (H.out.heap hheap); have d0 := R1.out.c0; have d1 := R1.out.c1; have f0 := R1.out.f0 0; have f1 := R1.out.f0 1; have HB := Lib.hid hb; have HGET := Lib.hid hget; have HN := Lib.hid hn; clear hb hget hn hheap c0)
    go_ret
  · refine ⟨n, t, !ok, rfl, HN.out, (R1.out.set0).set1, hts, grown_set (grown_set (grown_below _ HB.out) _) _, ?_, ?_⟩
    · intro he
      have hk : ok = true := by simpa using he
      exact ⟨rfl, by rw [HGET.out, if_pos hk]⟩
    · intro he
      have hk : ok = false := by simpa using he
      exact .inr (by rw [HGET.out, if_neg (by simp [hk])])
  · refine ⟨n, t, true, rfl, HN.out, (R1.out.set0).set1, hts, grown_set (grown_set (grown_below _ HB.out) _) _, ?_, ?_⟩
    · intro he; cases he
    · intro _; exact .inl rfl
end Go.Proofs.YtgglbjniclkkpaaDoor

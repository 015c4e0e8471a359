/-
  strings.SplitSeq at the line feed: the iterator.
-/
import Derived.Test.YtgglbjniclkkpaaGreatDoorRangeS
import Derived.Test.YtgglbjniclkkpaaGreatDoorOst
import Derived.Shelf.Abstract
import Derived.Shelf.RegionOpen
import Derived.WalkKit
import Derived.OwnWalkIn
import Derived.TacticsInMore
import Derived.LoopNIn
import Derived.LoopIn
namespace Go.Proofs.YtgglbjniclkkpaaGreatDoor
open Go.RowKit Go.Shelf
set_option linter.unusedVariables false
attribute [local go_sem] Oper.semAt_some

theorem pieces_miss {c : UInt8} {s : ByteArray} (h : Lib.indexB s ⟨#[c]⟩ = -1) : piecesV c s = [s] := by
  unfold piecesV
  rw [← splitB_all, Lib.countB_miss s _ h, Lib.splitB_zero]
theorem pieces_hit {c : UInt8} {s : ByteArray} {i : Nat} (h : Lib.indexB s ⟨#[c]⟩ = i) : piecesV c s = s.extract 0 i :: piecesV c (s.extract (i + 1) s.size) := by
  unfold piecesV
  rw [← splitB_all, ← splitB_all, Lib.countB_hit s ⟨#[c]⟩ i (Nat.le_refl 1) h, Nat.add_comm, Lib.splitB_hit _ _ _ _ i h]
  rfl
/-- What the iterator reads lies as it lay. -/
def Kp4 (gs gp ge : Nat) (W W' : World) : Prop := W'.heap[gs]? = W.heap[gs]? ∧ W'.heap[gp]? = W.heap[gp]? ∧ W'.heap[ge]? = W.heap[ge]? ∧ W'.heap[7]? = W.heap[7]?
theorem Kp4.trans {gs gp ge : Nat} {A B C : World} (h : Kp4 gs gp ge A B) (k : Kp4 gs gp ge B C) : Kp4 gs gp ge A C := ⟨k.1.trans h.1, k.2.1.trans h.2.1, k.2.2.1.trans h.2.2.1, k.2.2.2.trans h.2.2.2⟩
theorem Kp4.put {gs gp ge : Nat} {w : World} (h1 : gs < w.heap.size) (h2 : gp < w.heap.size) (h3 : ge < w.heap.size) (h4 : 7 < w.heap.size) (W : World) (l : Nat) (o o' : Obj) (hl : w.heap.size ≤ l) (h : W.heap[l]? = some o) (_ : o.isCells = false) (_ : o.isWalk = false) : Kp4 gs gp ge W (W.putObj l o') :=
  ⟨World.putObj_heap_other (by omega), World.putObj_heap_other (by omega), World.putObj_heap_other (by omega), World.putObj_heap_other (by omega)⟩
/-- How long the text at g is. -/
def sizeAt (W : World) (g : Nat) : Nat :=
  match W.cell? ⟨g, 0, none⟩ with
  | some (.string u) => u.size
  | _ => 0
structure ISt (gs gp ge : Nat) (u : ByteArray) (m : Int) (W : World) : Prop where
  s : W.heap[gs]? = some (.cells #[.string u] 9 (0, 0))
  p : W.heap[gp]? = some (.cells #[.string ⟨#[10]⟩] 9 (0, 0))
  e : W.heap[ge]? = some (.cells #[.int .i64 0] 3 (0, 0))
  m : ∃ o, W.heap[7]? = some o ∧ W.cell? ⟨7, 0, none⟩ = some (.int .i64 m)
theorem ISt.keep {gs gp ge : Nat} {u : ByteArray} {m : Int} {W W' : World} (h : ISt gs gp ge u m W) (k : Kp4 gs gp ge W W') : ISt gs gp ge u m W' :=
  ⟨k.1.trans h.s, k.2.1.trans h.p, k.2.2.1.trans h.e, by
    obtain ⟨o, h1, h2⟩ := h.m
    refine ⟨o, k.2.2.2.trans h1, ?_⟩
    unfold World.cell? at *
    rw [k.2.2.2]
    exact h2⟩
theorem ISt.cells {gs gp ge : Nat} {u : ByteArray} {m : Int} {W : World} (h : ISt gs gp ge u m W) : W.cell? ⟨gs, 0, none⟩ = some (.string u) ∧ W.cell? ⟨gp, 0, none⟩ = some (.string ⟨#[10]⟩) ∧ W.cell? ⟨ge, 0, none⟩ = some (.int .i64 0) ∧ W.frozen? ⟨gs, 0, none⟩ = false := by
  refine ⟨?_, ?_, ?_, ?_⟩ <;> simp [World.cell?, World.frozen?, h.s, h.p, h.e]
theorem ISt.set {gs gp ge : Nat} {u : ByteArray} {m : Int} {W : World} (h : ISt gs gp ge u m W) (v : ByteArray) (h1 : gp ≠ gs) (h2 : ge ≠ gs) (h3 : 7 ≠ gs) : ISt gs gp ge v m (W.setCell ⟨gs, 0, none⟩ (.string v)) :=
  ⟨set_block h.s, (Below.heap_setCell _ _ _ _ h1).trans h.p, (Below.heap_setCell _ _ _ _ h2).trans h.e, by
    obtain ⟨o, g1, g2⟩ := h.m
    have e := Below.heap_setCell W ⟨gs, 0, none⟩ (.string v) 7 h3
    refine ⟨o, e.trans g1, ?_⟩
    unfold World.cell? at *
    rw [e]
    exact g2⟩
set_option maxRecDepth 100000 in
set_option maxHeartbeats 2000000 in
theorem split_iter (n : Nat) (hn : 2 ≤ n) (gs gp ge : Nat) (t : ByteArray) (ht : t.size ≤ 1500) (m : Int) (w : World) (hi : ISt gs gp ge t m w) (h1 : gp ≠ gs) (h2 : ge ≠ gs) (h3 : 7 ≠ gs) :
    SeqS Fence.wide n Tryz.prog 36 #[.pointer (some ⟨gp, 0, none⟩), .pointer (some ⟨gs, 0, none⟩), .pointer (some ⟨ge, 0, none⟩)] (fun x : ByteArray => #[Value.string x]) (Kp4 gs gp ge) (piecesV 10 t) gs w := fun l J Jx W hW hJg hY h0 => by
  have IW : Hid (ISt gs gp ge t m W) := Lib.hid (hi.keep ⟨hW.block _ (Array.getElem?_eq_some_iff.1 hi.s).1, hW.block _ (Array.getElem?_eq_some_iff.1 hi.p).1, hW.block _ (Array.getElem?_eq_some_iff.1 hi.e).1, hW.block _ (by obtain ⟨o, h, _⟩ := hi.m; exact (Array.getElem?_eq_some_iff.1 h).1)⟩)
  obtain ⟨c0, c1, c2, f0⟩ := IW.out.cells
  clear hi hW
  refine callsIn_of_wp Tryz.func36 rfl trivial ?_ rfl
  simp only [Tryz.ntmps36, List.size_toArray, List.length_cons, List.length_nil, Nat.reduceAdd, Nat.reduceSub, Array.replicate_succ, Array.replicate_zero, List.push_toArray, List.append_toArray, List.nil_append, List.cons_append]
  gi_wp2
  gi_loopw [7] (fun _ wr => ∃ (pre : List ByteArray) (u : ByteArray), u.size ≤ 1500 ∧ Hid (piecesV 10 t = pre ++ piecesV 10 u) ∧ Hid (J pre wr) ∧ Hid (ISt gs gp ge u m wr)) (fun _ wr => sizeAt wr gs)
  case atStart => exact ⟨[], t, ht, Lib.hid rfl, Lib.hid h0, IW⟩
  case round =>
    obtain ⟨pre, u, hu, HP, HJ, IU⟩ := hrel
    clear IW c0 c1 c2 f0
    obtain ⟨c0, c1, c2, f0⟩ := IU.out.cells
    obtain ⟨om, hm0, hm1⟩ := IU.out.m
    have HI := Lib.hid (Tryz.strings_Index u ⟨#[10]⟩ m wr (by omega) hm1)
    rcases Lib.indexB_cases u ⟨#[10]⟩ with hx | ⟨i, hx, hil⟩
    · have HE : Hid (piecesV 10 u = [u]) := Lib.hid (pieces_miss hx)
      have hx' : Lib.index u.data.toList (⟨#[10]⟩ : ByteArray).data.toList = -1 := hx
      rw [hx'] at HI
      obtain ⟨fn, tmps, assign, body, hy, hR⟩ := hY pre u wr HJ.out (by rw [HP.out, HE.out]; exact List.prefix_refl _)
      have RR := Lib.hid hR
      clear hR hx hx' hm0 hm1
      gi_wp2_with (refine ⟨trivial, (fun _ => by omega), ?_⟩; gi_at_call 38; refine (callsIn_wide.2 HI.out).mono ?_; rintro e w' ⟨rfl, rfl⟩)
      refine ⟨fun _ => by omega, RR.out.mono ?_⟩
      rintro e W3 (⟨rfl, hJ3, hk3⟩ | ⟨rfl, hJx3⟩)
      · gi_wp2
        go_end0
        exact ⟨⟨_, rfl⟩, .inl (by rw [HP.out, HE.out]; exact hJ3)⟩
      · gi_wp2
        go_end0
        exact ⟨⟨_, rfl⟩, .inr ⟨_, by rw [HP.out, HE.out]; exact List.prefix_refl _, hJx3⟩⟩
    · have hil2 : i + 1 ≤ u.size := hil
      have HE : Hid (piecesV 10 u = u.extract 0 i :: piecesV 10 (u.extract (i + 1) u.size)) := Lib.hid (pieces_hit hx)
      have hx' : Lib.index u.data.toList (⟨#[10]⟩ : ByteArray).data.toList = (i : Int) := hx
      rw [hx'] at HI
      have HPX : Hid (pre ++ [u.extract 0 i] <+: piecesV 10 t) := Lib.hid (by rw [HP.out, HE.out]; exact ⟨piecesV 10 (u.extract (i + 1) u.size), by simp⟩)
      obtain ⟨fn, tmps, assign, body, hy, hR⟩ := hY pre (u.extract 0 i) wr HJ.out HPX.out
      have RR := Lib.hid hR
      have a1 : (0 : Int) ≤ (i : Int) := by omega
      have a2 : (i : Int) ≤ (u.size : Int) := by omega
      have a3 : (i : Int) + 1 ≤ (u.size : Int) := by omega
      have a4 : wrap64 ((i : Int) + 1) = (i : Int) + 1 := by unfold wrap64; omega
      have a5 : ¬ ((i : Int) < 0) := by omega
      have a6 : wrap64 (i : Int) = (i : Int) := by unfold wrap64; omega
      clear hR hx hx' hm0 hm1 hil
      gi_wp2_with (refine ⟨trivial, (fun _ => by omega), ?_⟩; gi_at_call 38; refine (callsIn_wide.2 HI.out).mono ?_; rintro e w' ⟨rfl, rfl⟩)
      refine ⟨fun _ => by omega, RR.out.mono ?_⟩
      rintro e W3 (⟨rfl, hJ3, hk3⟩ | ⟨rfl, hJx3⟩)
      · have I3 := Lib.hid (IU.out.keep hk3)
        obtain ⟨d0, d1, d2, d3⟩ := I3.out.cells
        have I4 := Lib.hid (I3.out.set (u.extract (i + 1) u.size) h1 h2 h3)
        have J4 := Lib.hid (hJg _ _ (.string (u.extract (i + 1) u.size)) hJ3)
        have hsz : (u.extract (i + 1) u.size).size = u.size - (i + 1) := by simp
        clear c0 c1 c2 f0
        gi_wp2
        go_roundw
        case rel => exact ⟨pre ++ [u.extract 0 i], u.extract (i + 1) u.size, by omega, Lib.hid (by rw [HP.out, HE.out]; simp), J4, I4⟩
        case measure =>
          have e1 := I4.out.cells.1
          have e2 := IU.out.cells.1
          unfold sizeAt
          rw [e1, e2]
          simp only []
          omega
      · gi_wp2
        refine bodyPost_ret (results_none rfl _ _ _) rfl ?_
        exact ⟨⟨_, rfl⟩, .inr ⟨_, HPX.out, hJx3⟩⟩
/-- strings.SplitSeq: the iterator's value. -/
theorem splitSeq_any (s sep : ByteArray) (w : World) : Calls Tryz.prog 15 #[.string s, .string sep] w fun e w' => e = .returned (.func (.func 36) #[] #[.pointer (some ⟨w.heap.size + 1, 0, none⟩), .pointer (some ⟨w.heap.size, 0, none⟩), .pointer (some ⟨w.heap.size + 1 + 1, 0, none⟩)]) ∧ w' = ((w.alloc (.cells #[.string s] 9)).alloc (.cells #[.string sep] 9)).alloc (.cells #[.int .i64 0] 3) := by
  go_enter Tryz.func15, Tryz.ntmps15
  go_wp2
  go_ret
  exact ⟨rfl, rfl⟩
end Go.Proofs.YtgglbjniclkkpaaGreatDoor

/-
  What the walk reads of package-level variables; numbers by texts, and texts by numbers; words and lines.
-/
import Derived.Test.YtgglbjniclkkpaaGreatDoorIs
import Derived.Test.YtgglbjniclkkpaaGreatDoorBase
import Derived.Test.YtgglbjniclkkpaaGreatDoorShelf
import Derived.Test.YtgglbjniclkkpaaGreatDoorLines
import Derived.Lib.SmallJoins
import Derived.Lib.AppendIntMem
import Derived.Lib.AtoiErrMem
import Derived.Lib.ParseIntBTie
import Derived.Maps.AppendAt
namespace Go.Proofs.YtgglbjniclkkpaaGreatDoor
open Go.RowKit Go.Lib Go.Shelf
set_option linter.unusedVariables false

structure Env (w : World) : Prop where
  hand : HandleAt w
  fine0 : w.cell? ⟨0, 0, none⟩ = some (.int .i64 0)
  fine1 : w.cell? ⟨0, 1, none⟩ = some (.int .i64 (-1))
  maxl : ∃ m, w.cell? ⟨7, 0, none⟩ = some (.int .i64 m)
  syn : ∃ t p, w.cell? ⟨1, 0, none⟩ = some (.iface t p)
  rng : ∃ t p, w.cell? ⟨2, 0, none⟩ = some (.iface t p)
  tab : Lib.TabIs Tryz.prog w "internal/strconv.uint64pow10" .u64 Lib.pow10Tab
theorem Env.up {w W : World} (h : Env w) (hb : Below w.heap.size w W) : Env W :=
  ⟨h.hand.up hb, cell_up hb h.fine0, cell_up hb h.fine1, h.maxl.imp fun _ h => cell_up hb h, h.syn.imp fun _ h => h.imp fun _ h => cell_up hb h, h.rng.imp fun _ h => h.imp fun _ h => cell_up hb h,
    Go.Joins.tab_stays (g := 3) (by kernel_rfl) h.tab hb (Nat.le_refl _)⟩
theorem beq_bytes (a b : ByteArray) : (a.toList == b.toList) = decide (a = b) := by
  rw [ByteArray.toList_eq, ByteArray.toList_eq, Bool.eq_iff_iff, beq_iff_eq, decide_eq_true_iff]
  constructor
  · intro h
    have := congrArg ofL h
    exact this
  · rintro rfl; rfl
/-- A number's text. -/
def fmtV (n : Int) : ByteArray := ofL (Lib.itoa n)
theorem format_any (n : Int) (hn : okN n) (w : World) (h : Env w) : Calls Tryz.prog 20 #[.int .i64 n, .int .i64 10] w fun e w' => e = .returned (.string (fmtV n)) ∧ Below w.heap.size w w' :=
  (Tryz.strconv_FormatInt_10 n hn.1 hn.2 w h.tab).mono fun e w' h => by
    obtain ⟨h1, k, os, rfl⟩ := h
    exact ⟨h1, below_grow _ w (Nat.le_refl _) k os⟩
/-- The number that a word is. -/
def numV (s : ByteArray) : Option Int :=
  match Lib.parseIntB 64 s.data.toList with
  | .ok v => if fmtV v = s then some v else none
  | _ => none
theorem numV_some {s : ByteArray} {v : Int} (h : numV s = some v) : Lib.parseIntB 64 s.data.toList = .ok v ∧ fmtV v = s := by
  unfold numV at h
  split at h
  · rename_i v' hv
    split at h
    · rename_i he
      cases h
      exact ⟨hv, he⟩
    · cases h
  · cases h
theorem numV_ok {s : ByteArray} {v : Int} (h : numV s = some v) : okN v := by
  have := Lib.parseIntB_bounds (numV_some h).1
  unfold okN
  have e : (2 : Nat) ^ (64 - 1) = 9223372036854775808 := by decide
  rw [e] at this
  omega
/-- What ParseInt hands back. -/
theorem parse_any (s : ByteArray) (hs : s.size ≤ 4294967296) (w : World) (h : Env w) : Calls Tryz.prog 19 #[.string s, .int .i64 10, .int .i64 64] w fun e w' => ∃ v ev, e = .returned (.tuple #[.int .i64 v, ev]) ∧ Below w.heap.size w w' ∧
    ((Lib.parseIntB 64 s.data.toList = .ok v ∧ ev = .nilIface ∧ okN v) ∨ (numV s = none ∧ ∃ t p, ev = .iface t p)) := by
  rcases hp : Lib.parseIntB 64 s.data.toList with v | _ | _
  · refine (Tryz.strconv_ParseInt_10_at64_ok s (by omega) v hp w).mono fun e w' h => ?_
    obtain ⟨h1, h2⟩ := h
    have hb := Lib.parseIntB_bounds hp
    have e : (2 : Nat) ^ (64 - 1) = 9223372036854775808 := by decide
    rw [e] at hb
    refine ⟨v, .nilIface, h1, ?_, .inl ⟨rfl, rfl, by unfold okN; omega⟩⟩
    rcases h2 with rfl | ⟨t, rfl⟩
    · exact Below.refl _ _
    · exact Lib.bytesWorld_below _ _ _
  all_goals
    have hn : numV s = none := by unfold numV; rw [hp]
    obtain ⟨t1, p1, hs1⟩ := h.syn
    obtain ⟨t2, p2, hs2⟩ := h.rng
    first
    | (refine (Any.strconv_ParseInt_10_at64_syntax Tryz.laysC174 s (by omega) hp _ w hs1 (.inr ⟨_, _, rfl⟩)).mono fun e w' h => ?_
       obtain ⟨N, h1, _, _, h4⟩ := h
       exact ⟨_, _, h1, h4, .inr ⟨hn, _, _, rfl⟩⟩)
    | (refine (Any.strconv_ParseInt_10_at64_range Tryz.laysC174 s (by omega) hp _ w hs2 (.inr ⟨_, _, rfl⟩)).mono fun e w' h => ?_
       obtain ⟨N, h1, _, _, h4⟩ := h
       exact ⟨_, _, h1, h4, .inr ⟨hn, _, _, rfl⟩⟩)
theorem nilG (op : BinOp) (x : Tmp) (w : World) (h : op = .eql ∨ op = .neq) : (eqGuard op 30 (.tmp x) (.const .nilIface) .nilIface .nilIface).run Tryz.prog w = .ok () w := by rcases h with rfl | rfl <;> kernel_rfl
theorem errG (op : BinOp) (x : Tmp) (t : TypeId) (p : Value) (w : World) (h : op = .eql ∨ op = .neq) : (eqGuard op 30 (.tmp x) (.const .nilIface) (.iface t p) .nilIface).run Tryz.prog w = .ok () w := by rcases h with rfl | rfl <;> kernel_rfl
theorem nilE (w : World) : (binOp .eql 30 .nilIface .nilIface).run Tryz.prog w = .ok (.bool true) w := by kernel_rfl
theorem nilN (w : World) : (binOp .neq 30 .nilIface .nilIface).run Tryz.prog w = .ok (.bool false) w := by kernel_rfl
theorem errE (t : TypeId) (p : Value) (w : World) : (binOp .eql 30 (.iface t p) .nilIface).run Tryz.prog w = .ok (.bool false) w := by kernel_rfl
theorem errN (t : TypeId) (p : Value) (w : World) : (binOp .neq 30 (.iface t p) .nilIface).run Tryz.prog w = .ok (.bool true) w := by kernel_rfl
set_option maxHeartbeats 1000000 in
set_option maxRecDepth 100000 in
/-- ref.num. -/
theorem num_any (s : ByteArray) (hs : s.size ≤ 4294967296) (w : World) (h : Env w) : Calls Tryz.prog 13 #[.string s] w fun e w' => ∃ v, e = .returned (.tuple #[.int .i64 v, .bool (numV s).isSome]) ∧ Below w.heap.size w w' ∧ ∀ x, numV s = some x → v = x := by
  have HP := Lib.hid (parse_any s hs w h)
  have E := Lib.hid h
  clear h
  go_enter Tryz.func13, Tryz.ntmps13
  go_wp2_with (go_at_call 19; refine HP.out.mono ?_; rintro r w1 ⟨v, ev, rfl, hb1, hv⟩)
  rcases hv with ⟨hp, rfl, hok⟩ | ⟨hn, t, p, rfl⟩
  · have HF := Lib.hid (format_any v hok w1 (E.out.up hb1))
    have hnum : numV s = if fmtV v = s then some v else none := by unfold numV; rw [hp]
    rw [nilG .eql 12 w1 (.inl rfl)]
    simp only [Result.andThen]
    rw [nilE]
    simp only []
    rw [Oper.upon_value]
    go_wp2_with (go_at_call 20; refine HF.out.mono ?_; rintro r w2 ⟨rfl, hb2⟩)
    rw [beq_bytes]
    go_ret2
    refine ⟨v, ?_, hb1.trans (hb2.mono hb1.size), fun x hx => ?_⟩
    · rw [hnum]
      by_cases h : fmtV v = s <;> simp [h]
    · rw [hnum] at hx
      split at hx
      · exact Option.some.inj hx
      · cases hx
  · rw [errG .eql 12 t p w1 (.inl rfl)]
    simp only [Result.andThen]
    rw [errE]
    simp only []
    rw [Oper.upon_value]
    go_wp2_with fail
    go_ret2
    exact ⟨v, by rw [hn]; rfl, hb1, fun x hx => by rw [hn] at hx; cases hx⟩
end Go.Proofs.YtgglbjniclkkpaaGreatDoor

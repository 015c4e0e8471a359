/-
  image.put, ref.Put: a number as bytes.
-/
import Derived.Test.YtgglbjniclkkpaaDoorProg
import Derived.Test.YtgglbjniclkkpaaDoorImagePlain
import Derived.WalkLawsBesides
import Derived.WalkSpells
import Derived.Lib.Walk
import Derived.Lib.VarintMem
import Derived.Lib.OthersKept
import Derived.Lib.Slices
import Derived.OwnWalk
import Derived.ArgAppend
import Derived.Outline
namespace Go.Proofs.YtgglbjniclkkpaaDoor
open Go.RowKit
set_option linter.unusedVariables false

theorem infoByte : (Tryd.prog.info? 5).map (fun i => (i.zero, i.size, i.bytes)) = some (some (.int .u8 0), 1, 1) := by kernel_rfl
theorem own_kind {w : World} {B : Nat} {e : TypeId} {v : Value} {n : Nat} {xs : List Value} (h : w.ownsRow B e 1 v n xs) : ∀ g, v.ownBlock = some g → ∃ c fz, w.heap[g]? = some (.cells c e fz) := by
  intro g hg
  rcases h.2 with ⟨rfl, _⟩ | ⟨g', cap, cur, rfl, _, hgg, _⟩
  · simp [Value.ownBlock] at hg
  · simp [Value.ownBlock] at hg
    subst hg
    exact ⟨cur, _, hgg⟩
/-- A row of bytes that the call owns, or a full one of which nothing else is known ([]byte("..")). -/
def RowM (w : World) (B : Nat) (v : Value) (n : Nat) (xs : List Value) : Prop :=
  w.ownsRow B 5 1 v n xs ∨ ∃ g cur fz, v = .slice (some ⟨g, 0, none⟩) n n ∧ B ≤ g ∧ w.heap[g]? = some (.cells cur 5 fz) ∧ cur.toList = xs ∧ xs.length = n
section
variable {w w' : World} {B n : Nat} {v : Value} {xs : List Value}
theorem RowM.alloc (h : RowM w B v n xs) (o : Obj) : RowM (w.alloc o) B v n xs := by
  rcases h with h | ⟨g, cur, fz, h1, h2, h3, h4⟩
  · exact .inl (h.alloc o)
  · exact .inr ⟨g, cur, fz, h1, h2, (Below.heap_alloc w o _ (Array.getElem?_eq_some_iff.1 h3).1).trans h3, h4⟩
theorem RowM.base (h : RowM w B v n xs) : ∀ k, v.ownBlock = some k → B ≤ k := by
  intro k hk
  rcases h with h | ⟨g, cur, fz, rfl, h2, _⟩
  · exact (h.lt k hk).1
  · simp [Value.ownBlock] at hk
    omega
theorem RowM.kind (h : RowM w B v n xs) : ∀ g, v.ownBlock = some g → ∃ c fz, w.heap[g]? = some (.cells c 5 fz) := by
  intro k hk
  rcases h with h | ⟨g, cur, fz, rfl, h2, h3, _⟩
  · exact own_kind h k hk
  · simp [Value.ownBlock] at hk
    subst hk
    exact ⟨_, _, h3⟩
theorem own_mono {B' : Nat} (h : w.ownsRow B' 5 1 v n xs) (hb : B ≤ B') : w.ownsRow B 5 1 v n xs := by
  refine ⟨h.1, ?_⟩
  rcases h.2 with h | ⟨g, cap, cur, h1, h2, h3⟩
  · exact .inl h
  · exact .inr ⟨g, cap, cur, h1, by omega, h3⟩
end
theorem wpList_append_M {w : World} {ops : Array Oper} {rest : List Oper} {o : Oper} {a : Act} {Q : Exit → Act → World → Prop} (hgd : o.guard = none) (s x : Operand) (t : TypeId)
    (ho : o.op = .call { callee := .builtin .append, args := #[s, x], argTypes := #[t, t] })
    (base : Nat) (i : TypeInfo) (ht : Tryd.prog.underlying t = some (.slice 5)) (hi : Tryd.prog.info? 5 = some i) (hz : i.zero = some (.int .u8 0)) (hsize : i.size = 1) (hby : i.bytes = 1)
    (v : Value) (n : Nat) (xs : List Value) (hs : a.eval s = v) (hown : RowM w base v n xs)
    (ad : Addr) (c : Nat) (b : Int) (hx : a.eval x = .slice (some ad) 1 c) (hnews : ∀ j u, [Value.int .u8 b][j]? = some u → w.cell? (ad.add j) = some u)
    (hlim : n + 1 ≤ 140737488355328) (hbase : base ≤ w.heap.size)
    (h : ∀ v' w', w'.ownsRow base 5 1 v' (n + 1) (xs ++ [Value.int .u8 b]) → w.grownBy w' v.ownBlock → wpList Tryd.prog ops Q rest (a.put o.dst v') w') : wpList Tryd.prog ops Q (o :: rest) a w := by
  have h1 : ∀ u ∈ [Value.int .u8 b], u.oneCell' = true := by intro u hu; simp at hu; subst hu; rfl
  rcases hown with hown | ⟨g, cur, fz, rfl, hg, hh, hcur, hlen⟩
  · exact wpList_append_own w hgd s x t ho base 5 i (.int .u8 0) 1 1 ht hi hz hsize hby rfl (by decide) v n xs hs hown ad 1 c [.int .u8 b] hx rfl hnews h1 (by unfold maxLen; omega) (by omega) hbase (fun v' w' h2 h3 _ => h v' w' h2 h3)
  · refine wpList_append_grows (P := Tryd.prog) w hgd s x t ho 5 i (.int .u8 0) 1 1 ht hi hz hsize hby rfl (by decide) (some ⟨g, 0, none⟩) n n xs hs (fun e => by cases e) (by omega) (fun b' e => ?_) ad 1 c [.int .u8 b] hx rfl hnews h1 (by omega) (by unfold maxLen; omega) (by omega) (fun v' w' h2 h3 => h v' w' (own_mono h2 hbase) ⟨h3.os, h3.tape, h3.output, h3.size, fun k hk _ => h3.block k hk (by simp)⟩)
    cases e
    intro j u hj
    have hadd : (⟨g, 0, none⟩ : Addr).add j = ⟨g, j, none⟩ := by unfold Addr.add; split <;> simp_all
    rw [hadd]
    rw [← hcur] at hj
    simp [World.cell?, hh]
    simpa using hj
set_option maxHeartbeats 2000000 in
set_option maxRecDepth 100000 in
theorem put_any (B m : Nat) (n : Int) (hn : okN n) (sv : Value) (xs : List Value) (w : World) (hown : RowM w B sv m xs) (hBw : B ≤ w.heap.size) (hlim : m + 10 ≤ 140737488355328) :
    Calls Tryd.prog 51 #[sv, .int .i64 n] w fun r w' => ∃ v', r = .returned v' ∧ w'.ownsRow B 5 1 v' (m + (putV n).length) (xs ++ Lib.byteCells (putV n)) ∧ Below B w w' ∧ Lib.OthersKept 5 none w w' := by
  obtain ⟨i0, hi, hz0, hz1, hz2⟩ := info_parts infoByte
  have hzl := zig_lt hn
  have hlen := putV_len hn
  unfold putV at *
  obtain ⟨x, hx⟩ : ∃ x, x = Lib.zigzag n := ⟨_, rfl⟩
  rw [← hx] at hzl hlen ⊢
  have hcmp : bits .xor .u64 (IntKind.u64.wrap (IntKind.u64.wrap n * 2)) (IntKind.u64.wrap (n / 9223372036854775808)) = (x : Int) := by
    by_cases h0 : n < 0
    · have e : IntKind.u64.wrap (n / 9223372036854775808) = 18446744073709551615 := by
        unfold okN at hn
        rw [IntKind.wrap_u64]; omega
      rw [e, put_neg hn h0, hx]
    · have e : IntKind.u64.wrap (n / 9223372036854775808) = 0 := by
        unfold okN at hn
        rw [IntKind.wrap_u64]; omega
      rw [e, put_pos hn (by omega), hx]
  have HC := Lib.hid hcmp
  clear hcmp hx
  unfold okN at hn
  obtain ⟨hn1, hn2⟩ := hn
  go_enter Tryd.func51, Tryd.ntmps51
  go_wp2
  go_loopw [0, 5] (fun vb vx wr => ∃ (y : Nat) (pre : List UInt8), vx = .int .u64 y ∧ y ≤ x ∧ Lib.uvarint x = pre ++ Lib.uvarint y ∧ RowM wr B vb (m + pre.length) (xs ++ Lib.byteCells pre) ∧ Below B w wr ∧ Lib.OthersKept 5 none w wr)
    (fun _ vx _ => (intOf vx).toNat)
  case atStart => exact ⟨x, [], by rw [HC.out], Nat.le_refl _, rfl, by simpa [Lib.byteCells] using hown, Below.refl _ _, Lib.OthersKept.refl _ _ _⟩
  case round =>
    obtain ⟨y, pre, rfl, hy, hsplit, hown1, hnx, hok⟩ := hrel
    have hpl : pre.length + (Lib.uvarint y).length ≤ 10 := by
      have h2 := congrArg List.length hsplit
      rw [List.length_append] at h2
      omega
    have hyp := Lib.uvarint_pos y
    by_cases h128 : 128 ≤ y
    · have hand : bits .and .u64 (y : Int) 127 = (y : Int) % 128 := by
        have h := bits_mask .u64 64 (by decide) wraps_u64 7 (by decide) (y : Int) (by omega) (by omega)
        simpa using h
      have hor : bits .or .u8 ((y : Int) % 128) 128 = ((y % 128 + 128 : Nat) : Int) := by
        rw [Lib.u8_or128_any _ (by omega) (by omega)]
        omega
      go_wp2_with (at_builtin; refine wpList_append_M rfl _ _ 82 rfl B i0 Tryd.underlying82 hi hz0 hz1 hz2 _ _ _ rfl (hown1.alloc _) ⟨wr.heap.size, 0, none⟩ 1 ((y % 128 + 128 : Nat) : Int) rfl ?c1 ?c4 ?c5 ?_)
      case c1 =>
        intro j u hj
        match j, hj with
        | 0, hj => simp at hj; subst hj; simp [Addr.add]
      case c4 => omega
      case c5 => have := hnx.size; simp; omega
      intro v' w1 hown' hgrow
      have hnx1 : Below B w w1 := (hnx.alloc (by have := hnx.size; omega) _).grown hgrow (by have := hnx.size; simp; omega) hown1.base
      have hok1 : Lib.OthersKept 5 none w w1 := (hok.alloc _).grown hgrow (hown1.alloc _).kind
      go_wp2
      go_roundw
      case rel =>
        refine ⟨y / 128, pre ++ [(y % 128 + 128).toUInt8], by go_num, by omega, by rw [hsplit, Lib.uvarint_big h128]; simp, ?_, hnx1, hok1⟩
        have ec : ((y % 128 + 128 : Nat) : Int) = (y : Int) % 128 + 128 := by omega
        rw [Lib.byteCells_snoc pre (by omega), List.length_append, List.length_singleton, ← Nat.add_assoc, ec]
        exact .inl hown'
      case measure => simp [intOf]; omega
    · have hsm : Lib.uvarint y = [y.toUInt8] := Lib.uvarint_small (by omega)
      go_wp2_with (at_builtin; refine wpList_append_M rfl _ _ 82 rfl B i0 Tryd.underlying82 hi hz0 hz1 hz2 _ _ _ rfl (hown1.alloc _) ⟨wr.heap.size, 0, none⟩ 1 (y : Int) rfl ?c1 ?c4 ?c5 ?_)
      case c1 =>
        intro j u hj
        match j, hj with
        | 0, hj => simp at hj; subst hj; simp [Addr.add]
      case c4 => omega
      case c5 => have := hnx.size; simp; omega
      intro v' w1 hown' hgrow
      have hnx1 : Below B w w1 := (hnx.alloc (by have := hnx.size; omega) _).grown hgrow (by have := hnx.size; simp; omega) hown1.base
      have hok1 : Lib.OthersKept 5 none w w1 := (hok.alloc _).grown hgrow (hown1.alloc _).kind
      go_wp2
      go_ret
      refine ⟨v', rfl, ?_, hnx1, hok1⟩
      rw [hsplit, hsm, Lib.byteCells_snoc pre (by omega), List.length_append, List.length_singleton, ← Nat.add_assoc]
      exact hown'
theorem conv_one (w : World) (b : Nat) (hb : b < 256) (v : Int) (hv : v = (b : Int)) : (convert 82 9 (.slice (some ⟨w.heap.size, 0, none⟩) 1 1)).run Tryd.prog (w.alloc (.cells #[.int .u8 v] 5)) = .ok (.string ⟨[b.toUInt8].toArray⟩) (w.alloc (.cells #[.int .u8 v] 5)) := by
  subst hv
  refine run_convert_bytes_back (P := Tryd.prog) _ 82 9 5 ⟨w.heap.size, 0, none⟩ 1 [b.toUInt8] Tryd.underlying82 Tryd.underlying5 Tryd.underlying9 ?_
  intro j hj
  have h0 : j = 0 := by simpa using hj
  subst h0
  simp [Addr.add, Lib.toUInt8_toNat hb]
section
variable (n : Int) (x : Nat) (w : World)
/-- ref.Put's loop, from any u on. -/
theorem refPut_data (pre a : List UInt8) : (⟨pre.toArray⟩ : ByteArray) ++ ⟨a.toArray⟩ = ⟨(pre ++ a).toArray⟩ := by
  apply ByteArray.ext
  simp
end
set_option maxHeartbeats 2000000 in
set_option maxRecDepth 100000 in
theorem refPut_any (n : Int) (hn : okN n) (w : World) : Calls Tryd.prog 47 #[.int .i64 n] w fun r w' => r = .returned (.string ⟨(putV n).toArray⟩) ∧ Below w.heap.size w w' := by
  have hzl := zig_lt hn
  have hlen := putV_len hn
  unfold putV at *
  obtain ⟨x, hx⟩ : ∃ x, x = Lib.zigzag n := ⟨_, rfl⟩
  rw [← hx] at hzl hlen ⊢
  by_cases h0 : n < 0
  all_goals
    first | (have HC := Lib.hid (refput_neg hn h0)) | (have HC := Lib.hid (show n * 2 = ((Lib.zigzag n : Nat) : Int) from (Lib.zigzag_nonneg (by omega)).symm))
    rw [← hx] at HC
    clear hx
    unfold okN at hn
    obtain ⟨hn1, hn2⟩ := hn
    go_enter Tryd.func47, Tryd.ntmps47
    go_wp2
    go_loopw [3, 4] (fun vu vs wr => ∃ (y : Nat) (pre : List UInt8), vu = .int .u64 y ∧ vs = .string ⟨pre.toArray⟩ ∧ y ≤ x ∧ Lib.uvarint x = pre ++ Lib.uvarint y ∧ Below w.heap.size w wr) (fun vu _ _ => (intOf vu).toNat)
    case atStart => exact ⟨x, [], by rw [HC.out], rfl, Nat.le_refl _, rfl, Below.refl _ _⟩
    case round =>
      obtain ⟨y, pre, rfl, rfl, hy, hsplit, hbw⟩ := hrel
      have hpl : pre.length + (Lib.uvarint y).length ≤ 10 := by
        have h2 := congrArg List.length hsplit
        rw [List.length_append] at h2
        omega
      have hyp := Lib.uvarint_pos y
      by_cases h128 : 128 ≤ y
      · have hcv := conv_one wr (y % 128 + 128) (by omega) ((y : Int) % 128 + 128) (by omega)
        obtain ⟨c, hc⟩ : ∃ c : UInt8, c = (y % 128 + 128).toUInt8 := ⟨_, rfl⟩
        rw [← hc] at hcv
        have HB := Lib.hid hc
        clear hc
        go_wp2
        go_roundw
        case rel => exact ⟨y / 128, pre ++ [c], by go_num, congrArg Value.string (refPut_data pre [c]), by omega, by rw [hsplit, Lib.uvarint_big h128, HB.out]; simp, hbw.alloc hbw.size _⟩
        case measure => simp [intOf]; omega
      · have hcv := conv_one wr y (by omega) (y : Int) rfl
        obtain ⟨c, hc⟩ : ∃ c : UInt8, c = y.toUInt8 := ⟨_, rfl⟩
        rw [← hc] at hcv
        have HB := Lib.hid hc
        clear hc
        go_wp2
        go_ret
        refine ⟨congrArg (fun s => Ending.returned (.string s)) ((refPut_data pre [c]).trans ?_), hbw.alloc hbw.size _⟩
        rw [hsplit, Lib.uvarint_small (by omega), HB.out]
end Go.Proofs.YtgglbjniclkkpaaDoor

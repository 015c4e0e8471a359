/-
  ref.WriteImage's inner functions: a list of numbers as bytes, into the builder.
-/
import Derived.Test.YtgglbjniclkkpaaDoorPut
import Derived.Test.YtgglbjniclkkpaaDoorBuilder
import Derived.OneCell
namespace Go.Proofs.YtgglbjniclkkpaaDoor
open Go.RowKit
set_option linter.unusedVariables false

/-- The builder at block b holds the bytes bs. -/
def BufAt (w : World) (B b : Nat) (bs : List UInt8) : Prop := Lib.IsBuilderF 84 5 B b (Lib.byteCells bs) w
theorem ownsRowF_up {w W : World} {B n : Nat} {v : Value} {xs : List Value} {e : TypeId} (h : w.ownsRowF B e 1 v n xs) (hb : Below w.heap.size w W) : W.ownsRowF B e 1 v n xs := by
  refine ⟨h.1, ?_⟩
  rcases h.2 with hn | ⟨g, cap, cur, fz, rfl, hg, hgg, rest⟩
  · exact .inl hn
  · exact .inr ⟨g, cap, cur, fz, rfl, hg, (hb.block g (lt_of_block hgg)).trans hgg, rest⟩
theorem builderAtF_up {w W : World} {B b : Nat} {p : Value} {bs : List Value} (h : Lib.BuilderAtF 84 5 B b p bs w) (hb : Below w.heap.size w W) : Lib.BuilderAtF 84 5 B b p bs W := by
  obtain ⟨h0, v, h1, h2, h3⟩ := h
  exact ⟨h0, v, (hb.block b (lt_of_block h1)).trans h1, ownsRowF_up h2 hb, h3⟩
theorem BufAt.up {w W : World} {B b : Nat} {bs : List UInt8} (h : BufAt w B b bs) (hb : Below w.heap.size w W) : BufAt W B b bs := by
  rcases h with h | h
  · exact .inl (builderAtF_up h hb)
  · exact .inr (builderAtF_up h hb)
theorem builderAtF_mono {w : World} {B B' b : Nat} {p : Value} {bs : List Value} (h : Lib.BuilderAtF 84 5 B b p bs w) (hb : B' ≤ B) : Lib.BuilderAtF 84 5 B' b p bs w := by
  obtain ⟨h0, v, h1, h2, h3⟩ := h
  refine ⟨Nat.le_trans hb h0, v, h1, ⟨h2.1, ?_⟩, h3⟩
  rcases h2.2 with hn | ⟨g, cap, cur, fz, hv, hg, rest⟩
  · exact .inl hn
  · exact .inr ⟨g, cap, cur, fz, hv, Nat.le_trans hb hg, rest⟩
/-- A new builder. -/
theorem BufAt.fresh (w : World) (B : Nat) (hB : B ≤ w.heap.size) : BufAt (w.alloc (.cells #[.pointer none, .slice none 0 0] 84)) B w.heap.size [] := by
  rcases Lib.IsBuilderF.of (Lib.fresh_isBuilder 84 5 w) with h | h
  · exact .inl (builderAtF_mono h hB)
  · exact .inr (builderAtF_mono h hB)
theorem others_of_below {w W : World} (b : Option Nat) (hb : Below w.heap.size w W) : Lib.OthersKept 5 b w W := fun k o hk _ _ => (hb.block k (lt_of_block hk)).trans hk
/-- A text goes into the builder. -/
theorem write_buf (B b : Nat) (bs l : List UInt8) (w : World) (h : BufAt w B b bs) (hBw : B ≤ w.heap.size) (h1 : bs.length ≤ 1000000) (h2 : l.length ≤ 1000) :
    Calls Tryd.prog 46 #[.pointer (some ⟨b, 0, none⟩), .string ⟨l.toArray⟩] w fun r w' => r = .returned (.tuple #[.int .i64 (l.length : Int), .nilIface]) ∧ BufAt w' B b (bs ++ l) ∧ Below B w w' ∧ Lib.OthersKept 5 (some b) w w' := by
  have hs : (⟨l.toArray⟩ : ByteArray).size = l.length := by simp [ByteArray.size]
  refine (writeString_k B b (Lib.byteCells bs) ⟨l.toArray⟩ w h (by rw [Lib.byteCells_length, hs]; omega) hBw).mono ?_
  rintro r w' ⟨rfl, h3, h4, h5⟩
  refine ⟨by rw [hs], ?_, h4, h5⟩
  have e : Lib.byteCells (bs ++ l) = Lib.byteCells bs ++ Lib.strCells ⟨l.toArray⟩ := by rw [Lib.byteCells_append, Lib.strCells_eq]
  unfold BufAt
  rw [e]
  exact .inr h3
theorem getD_ok' {xs : List Int} (h : ∀ x ∈ xs, okN x) (k : Nat) : okN (xs.getD k 0) := by
  rw [List.getD_eq_getElem?_getD]
  rcases hk : xs[k]? with _ | x
  · simp [okN]
  · exact h x (List.mem_of_getElem? hk)
theorem take_numsV' {xs : List Int} {n : Nat} (hl : xs.length = n) (k : Nat) (hk : k < n) : numsV (xs.take (k + 1)) = numsV (xs.take k) ++ putV (xs.getD k 0) := by
  have hk' : k < xs.length := by omega
  rw [List.take_succ_eq_append_getElem hk', numsV_append, List.getD_eq_getElem?_getD, List.getElem?_eq_getElem hk']
  simp [numsV]
theorem take_numsV_len' {xs : List Int} (h : ∀ x ∈ xs, okN x) (k : Nat) : (numsV (xs.take k)).length ≤ 10 * k := by
  have h1 := numsV_len (xs.take k) (fun x hx => h x (List.mem_of_mem_take hx))
  have h2 : (xs.take k).length ≤ k := List.length_take_le _ _
  omega
set_option maxHeartbeats 2000000 in
set_option maxRecDepth 100000 in
theorem refBig_any (B b : Nat) (A : Option Addr) (n c : Nat) (xs : List Int) (bs : List UInt8) (w : World) (hbuf : BufAt w B b bs) (hBw : B ≤ w.heap.size) (hi : ∀ w', Below B w w' → Lib.OthersKept 5 (some b) w w' → IntsAt w' A n xs) (hx : ∀ x ∈ xs, okN x) (hn : n ≤ 4000) (hlim : bs.length ≤ 100000) :
    Calls Tryd.prog 48 #[.slice A n c, .pointer (some ⟨b, 0, none⟩)] w fun r w' => r = .returned (.tuple #[]) ∧ BufAt w' B b (bs ++ listV xs) ∧ Below B w w' ∧ Lib.OthersKept 5 (some b) w w' := by
  have hi0 := hi w (Below.refl _ _) (Lib.OthersKept.refl _ _ _)
  have hxl := hi0.1
  have HI := Lib.hid hi
  have HX := Lib.hid hx
  have HP := Lib.hid (refPut_any (n : Int) (okN_nat (by omega)) w)
  have HL := Lib.hid (putV_len (okN_nat (n := n) (by omega)))
  clear hi0 hi hx
  go_enter Tryd.func48, Tryd.ntmps48
  go_wp2_with (go_at_call 47; (with_reducible refine HP.out.mono ?_); rintro r w1 ⟨rfl, hb1⟩)
  have F1 := Lib.hid (write_buf B b bs (putV n) w1 (hbuf.up hb1) (Nat.le_trans hBw hb1.size) (by omega) (Nat.le_trans HL.out (by decide)))
  have HB1 := Lib.hid hb1
  clear hb1 hbuf
  go_wp2_with (go_at_call 46; (with_reducible refine F1.out.mono ?_); rintro r w2 ⟨rfl, hbuf2, hb2, hk2⟩)
  have HC2 := Lib.hid hbuf2
  have HB2 := Lib.hid ((HB1.out.mono hBw).trans hb2)
  have HK2 := Lib.hid ((others_of_below (some b) HB1.out).trans hk2)
  clear F1 HB1 hbuf2 hb2 hk2 HP
  go_loopw [11] (fun i wr => ∃ k : Nat, k ≤ n ∧ i = .int .i64 k ∧ BufAt wr B b (bs ++ putV n ++ numsV (xs.take k)) ∧ Below B w wr ∧ Lib.OthersKept 5 (some b) w wr) (fun i _ => n - (intOf i).toNat)
  case atStart => exact ⟨0, Nat.zero_le _, rfl, by simpa [numsV] using HC2.out, HB2.out, HK2.out⟩
  case round =>
    obtain ⟨k, hk, rfl, hbuf, hb, hkk⟩ := hrel
    have hlen : (bs ++ putV n ++ numsV (xs.take k)).length ≤ 200000 := by
      have h1 := take_numsV_len' HX.out k
      have h2 := HL.out
      simp only [List.length_append]
      omega
    have HB := Lib.hid hb
    have HK := Lib.hid hkk
    have hsz : B ≤ wr.heap.size := Nat.le_trans hBw hb.size
    have hiw := HI.out wr hb hkk
    clear hb hkk
    by_cases hlt : k < n
    · obtain ⟨bb, o, rfl, hc⟩ := hiw.2 (by omega)
      have hck := hc k hlt
      have ht := take_numsV' hxl k hlt
      have hok := getD_ok' HX.out k
      obtain ⟨x, hx⟩ : ∃ x, x = xs.getD k 0 := ⟨_, rfl⟩
      rw [← hx] at hck ht hok
      obtain ⟨acc, hacc⟩ : ∃ acc, acc = bs ++ putV n ++ numsV (xs.take k) := ⟨_, rfl⟩
      have HT : Hid (bs ++ putV n ++ numsV (xs.take (k + 1)) = acc ++ putV x) := by
        apply Lib.hid
        rw [ht, hacc, ← List.append_assoc]
      rw [← hacc] at hbuf hlen
      have HOK := Lib.hid hok
      have HP := Lib.hid (refPut_any x hok wr)
      have HBF := Lib.hid hbuf
      clear ht hc hiw hx hacc hok hbuf
      go_wp2_with (go_at_call 47; (with_reducible refine HP.out.mono ?_); rintro r w3 ⟨rfl, hb3⟩)
      have F3 := Lib.hid (write_buf B b acc (putV x) w3 (HBF.out.up hb3) (Nat.le_trans hsz hb3.size) (by omega) (Nat.le_trans (putV_len HOK.out) (by decide)))
      have HB3 := Lib.hid hb3
      clear hb3
      go_wp2_with (go_at_call 46; (with_reducible refine F3.out.mono ?_); rintro r w4 ⟨rfl, hbuf4, hb4, hk4⟩)
      have Q1 := Lib.hid (HB.out.trans ((HB3.out.mono hsz).trans hb4))
      have Q2 := Lib.hid (HK.out.trans ((others_of_below (some b) HB3.out).trans hk4))
      have Q3 := Lib.hid hbuf4
      clear hb4 hk4 hbuf4 F3 HP HBF
      go_roundw
      case rel => exact ⟨k + 1, by omega, by go_num, by rw [HT.out]; exact Q3.out, Q1.out, Q2.out⟩
      case measure => simp [intOf]; omega
    · go_wp2
      go_end0
      have : k = n := by omega
      subst this
      refine ⟨rfl, ?_, HB.out, HK.out⟩
      rw [List.take_of_length_le (by omega)] at hbuf
      unfold listV
      rw [hxl, ← List.append_assoc]
      exact hbuf
set_option maxHeartbeats 2000000 in
set_option maxRecDepth 100000 in
theorem refSmall_any (B b : Nat) (A : Option Addr) (n c : Nat) (xs : List Int) (bs : List UInt8) (w : World) (hbuf : BufAt w B b bs) (hBw : B ≤ w.heap.size) (hi : ∀ w', Below B w w' → Lib.OthersKept 5 (some b) w w' → IntsAt w' A n xs) (hx : ∀ x ∈ xs, okN x) (hn : n ≤ 4000) (hlim : bs.length ≤ 100000) :
    Calls Tryd.prog 49 #[.slice A n c, .pointer (some ⟨b, 0, none⟩)] w fun r w' => r = .returned (.tuple #[]) ∧ BufAt w' B b (bs ++ listV xs) ∧ Below B w w' ∧ Lib.OthersKept 5 (some b) w w' := by
  have hi0 := hi w (Below.refl _ _) (Lib.OthersKept.refl _ _ _)
  have hxl := hi0.1
  have HI := Lib.hid hi
  have HX := Lib.hid hx
  have HP := Lib.hid (refPut_any (n : Int) (okN_nat (by omega)) w)
  have HL := Lib.hid (putV_len (okN_nat (n := n) (by omega)))
  clear hi0 hi hx
  go_enter Tryd.func49, Tryd.ntmps49
  go_wp2_with (go_at_call 47; (with_reducible refine HP.out.mono ?_); rintro r w1 ⟨rfl, hb1⟩)
  have F1 := Lib.hid (write_buf B b bs (putV n) w1 (hbuf.up hb1) (Nat.le_trans hBw hb1.size) (by omega) (Nat.le_trans HL.out (by decide)))
  have HB1 := Lib.hid hb1
  clear hb1 hbuf
  go_wp2_with (go_at_call 46; (with_reducible refine F1.out.mono ?_); rintro r w2 ⟨rfl, hbuf2, hb2, hk2⟩)
  have HC2 := Lib.hid hbuf2
  have HB2 := Lib.hid ((HB1.out.mono hBw).trans hb2)
  have HK2 := Lib.hid ((others_of_below (some b) HB1.out).trans hk2)
  clear F1 HB1 hbuf2 hb2 hk2 HP
  go_loopw [11] (fun i wr => ∃ k : Nat, k ≤ n ∧ i = .int .i64 k ∧ BufAt wr B b (bs ++ putV n ++ numsV (xs.take k)) ∧ Below B w wr ∧ Lib.OthersKept 5 (some b) w wr) (fun i _ => n - (intOf i).toNat)
  case atStart => exact ⟨0, Nat.zero_le _, rfl, by simpa [numsV] using HC2.out, HB2.out, HK2.out⟩
  case round =>
    obtain ⟨k, hk, rfl, hbuf, hb, hkk⟩ := hrel
    have hlen : (bs ++ putV n ++ numsV (xs.take k)).length ≤ 200000 := by
      have h1 := take_numsV_len' HX.out k
      have h2 := HL.out
      simp only [List.length_append]
      omega
    have HB := Lib.hid hb
    have HK := Lib.hid hkk
    have hsz : B ≤ wr.heap.size := Nat.le_trans hBw hb.size
    have hiw := HI.out wr hb hkk
    clear hb hkk
    by_cases hlt : k < n
    · obtain ⟨bb, o, rfl, hc⟩ := hiw.2 (by omega)
      have hck := hc k hlt
      have ht := take_numsV' hxl k hlt
      have hok := getD_ok' HX.out k
      obtain ⟨x, hx⟩ : ∃ x, x = xs.getD k 0 := ⟨_, rfl⟩
      rw [← hx] at hck ht hok
      obtain ⟨acc, hacc⟩ : ∃ acc, acc = bs ++ putV n ++ numsV (xs.take k) := ⟨_, rfl⟩
      have HT : Hid (bs ++ putV n ++ numsV (xs.take (k + 1)) = acc ++ putV x) := by
        apply Lib.hid
        rw [ht, hacc, ← List.append_assoc]
      rw [← hacc] at hbuf hlen
      have HOK := Lib.hid hok
      have HP := Lib.hid (refPut_any x hok wr)
      have HBF := Lib.hid hbuf
      clear ht hc hiw hx hacc hok hbuf
      go_wp2_with (go_at_call 47; (with_reducible refine HP.out.mono ?_); rintro r w3 ⟨rfl, hb3⟩)
      have F3 := Lib.hid (write_buf B b acc (putV x) w3 (HBF.out.up hb3) (Nat.le_trans hsz hb3.size) (by omega) (Nat.le_trans (putV_len HOK.out) (by decide)))
      have HB3 := Lib.hid hb3
      clear hb3
      go_wp2_with (go_at_call 46; (with_reducible refine F3.out.mono ?_); rintro r w4 ⟨rfl, hbuf4, hb4, hk4⟩)
      have Q1 := Lib.hid (HB.out.trans ((HB3.out.mono hsz).trans hb4))
      have Q2 := Lib.hid (HK.out.trans ((others_of_below (some b) HB3.out).trans hk4))
      have Q3 := Lib.hid hbuf4
      clear hb4 hk4 hbuf4 F3 HP HBF
      go_roundw
      case rel => exact ⟨k + 1, by omega, by go_num, by rw [HT.out]; exact Q3.out, Q1.out, Q2.out⟩
      case measure => simp [intOf]; omega
    · go_wp2
      go_end0
      have : k = n := by omega
      subst this
      refine ⟨rfl, ?_, HB.out, HK.out⟩
      rw [List.take_of_length_le (by omega)] at hbuf
      unfold listV
      rw [hxl, ← List.append_assoc]
      exact hbuf
end Go.Proofs.YtgglbjniclkkpaaDoor

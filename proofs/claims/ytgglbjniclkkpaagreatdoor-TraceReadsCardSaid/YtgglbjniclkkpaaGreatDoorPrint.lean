/-
  trace.Print.
-/
import Derived.Test.YtgglbjniclkkpaaGreatDoorBuilder
import Derived.Test.YtgglbjniclkkpaaGreatDoorPrints
import Derived.OneCell
namespace Go.Proofs.YtgglbjniclkkpaaGreatDoor
open Go.RowKit
set_option linter.unusedVariables false

/-- The builder at block b holds the bytes bs. -/
def BufAt (w : World) (B b : Nat) (bs : List UInt8) : Prop := Lib.IsBuilderF 59 5 B b (Lib.byteCells bs) w
theorem ownsRowF_up {w W : World} {B n : Nat} {v : Value} {xs : List Value} {e : TypeId} (h : w.ownsRowF B e 1 v n xs) (hb : Below w.heap.size w W) : W.ownsRowF B e 1 v n xs := by
  refine ⟨h.1, ?_⟩
  rcases h.2 with hn | ⟨g, cap, cur, fz, rfl, hg, hgg, rest⟩
  · exact .inl hn
  · exact .inr ⟨g, cap, cur, fz, rfl, hg, (hb.block g (lt_of_block hgg)).trans hgg, rest⟩
theorem builderAtF_up {w W : World} {B b : Nat} {p : Value} {bs : List Value} (h : Lib.BuilderAtF 59 5 B b p bs w) (hb : Below w.heap.size w W) : Lib.BuilderAtF 59 5 B b p bs W := by
  obtain ⟨h0, v, h1, h2, h3⟩ := h
  exact ⟨h0, v, (hb.block b (lt_of_block h1)).trans h1, ownsRowF_up h2 hb, h3⟩
theorem BufAt.up {w W : World} {B b : Nat} {bs : List UInt8} (h : BufAt w B b bs) (hb : Below w.heap.size w W) : BufAt W B b bs := by
  rcases h with h | h
  · exact .inl (builderAtF_up h hb)
  · exact .inr (builderAtF_up h hb)
theorem builderAtF_mono {w : World} {B B' b : Nat} {p : Value} {bs : List Value} (h : Lib.BuilderAtF 59 5 B b p bs w) (hb : B' ≤ B) : Lib.BuilderAtF 59 5 B' b p bs w := by
  obtain ⟨h0, v, h1, h2, h3⟩ := h
  refine ⟨Nat.le_trans hb h0, v, h1, ⟨h2.1, ?_⟩, h3⟩
  rcases h2.2 with hn | ⟨g, cap, cur, fz, hv, hg, rest⟩
  · exact .inl hn
  · exact .inr ⟨g, cap, cur, fz, hv, Nat.le_trans hb hg, rest⟩
/-- A new builder. -/
theorem BufAt.fresh (w : World) (B : Nat) (hB : B ≤ w.heap.size) : BufAt (w.alloc (.cells #[.pointer none, .slice none 0 0] 59)) B w.heap.size [] := by
  rcases Lib.IsBuilderF.of (Lib.fresh_isBuilder 59 5 w) with h | h
  · exact .inl (builderAtF_mono h hB)
  · exact .inr (builderAtF_mono h hB)
theorem others_of_below {w W : World} (b : Option Nat) (hb : Below w.heap.size w W) : Lib.OthersKept 5 b w W := fun k o hk _ _ => (hb.block k (lt_of_block hk)).trans hk
/-- A text goes into the builder. -/
theorem write_buf (B b : Nat) (bs l : List UInt8) (w : World) (h : BufAt w B b bs) (hBw : B ≤ w.heap.size) (h1 : bs.length ≤ 1000000) (h2 : l.length ≤ 1000) :
    Calls Tryz.prog 23 #[.pointer (some ⟨b, 0, none⟩), .string ⟨l.toArray⟩] w fun r w' => r = .returned (.tuple #[.int .i64 (l.length : Int), .nilIface]) ∧ BufAt w' B b (bs ++ l) ∧ Below B w w' ∧ Lib.OthersKept 5 (some b) w w' := by
  have hs : (⟨l.toArray⟩ : ByteArray).size = l.length := by simp [ByteArray.size]
  refine (writeString_k B b (Lib.byteCells bs) ⟨l.toArray⟩ w h (by rw [Lib.byteCells_length, hs]; omega) hBw).mono ?_
  rintro r w' ⟨rfl, h3, h4, h5⟩
  refine ⟨by rw [hs], ?_, h4, h5⟩
  have e : Lib.byteCells (bs ++ l) = Lib.byteCells bs ++ Lib.strCells ⟨l.toArray⟩ := by rw [Lib.byteCells_append, Lib.strCells_eq]
  unfold BufAt
  rw [e]
  exact .inr h3
/-- A byte goes into the builder. -/
theorem write_byte (B b : Nat) (bs : List UInt8) (c : UInt8) (w : World) (h : BufAt w B b bs) (hBw : B ≤ w.heap.size) (h1 : bs.length ≤ 1000000) :
    Calls Tryz.prog 22 #[.pointer (some ⟨b, 0, none⟩), .int .u8 (c.toNat : Int)] w fun r w' => r = .returned .nilIface ∧ BufAt w' B b (bs ++ [c]) ∧ Below B w w' := by
  refine (writeByte_k B b (Lib.byteCells bs) c.toNat w h (by rw [Lib.byteCells_length]; omega) hBw).mono ?_
  rintro r w' ⟨rfl, h3, h4, h5⟩
  refine ⟨rfl, ?_, h4⟩
  have e : Lib.byteCells (bs ++ [c]) = Lib.byteCells bs ++ [.int .u8 (c.toNat : Int)] := by rw [Lib.byteCells_append]; rfl
  unfold BufAt
  rw [e]
  exact .inr h3
theorem rowT_next (xs : List Int) (j : Nat) (v : Int) (h : xs[j]? = some v) : (rowT (xs.take (j + 1))).drop 1 = (if j = 0 then [] else (rowT (xs.take j)).drop 1 ++ [32]) ++ Lib.itoa v := by
  have ht : xs.take (j + 1) = xs.take j ++ [v] := by rw [List.take_add_one, h]; rfl
  rw [ht, rowT_snoc]
  by_cases hj : j = 0
  · subst hj
    simp [rowT]
  · have hl : 0 < (xs.take j).length := by
      have := (List.getElem?_eq_some_iff.1 h).1
      rw [List.length_take]
      omega
    rw [if_neg hj]
    obtain ⟨y, r, e⟩ : ∃ y r, xs.take j = y :: r := by
      cases h' : xs.take j with
      | nil => rw [h'] at hl; simp at hl
      | cons y r => exact ⟨y, r, rfl⟩
    rw [e]
    simp [rowT]
set_option maxHeartbeats 4000000 in
set_option maxRecDepth 100000 in
theorem print_any (B : Option Addr) (n c : Nat) (R : List (List Int)) (w : World) (h : Env w) (hB : RowsAt w B n R) (hf : fewB R = true) : Calls Tryz.prog 8 #[.slice B n c] w fun e w' => e = .returned (.string (ofL (linesT R))) ∧ Below w.heap.size w w' := by
  have H := Lib.hid hB
  have E := Lib.hid h
  have hR : ∀ xs ∈ R, xs.length ≤ 30 ∧ ∀ x ∈ xs, okN x := by
    intro xs hm
    obtain ⟨k, hk⟩ := List.mem_iff_getElem?.1 hm
    have hkn : k < n := by rw [← hB.1]; exact (List.getElem?_eq_some_iff.1 hk).1
    obtain ⟨b, o, e, hc⟩ := hB.2 (by omega)
    obtain ⟨_, _, _, ys, h1, _, _, h4⟩ := hc k hkn
    rw [hk] at h1
    cases h1
    refine ⟨?_, h4⟩
    unfold fewB at hf
    simp only [Bool.and_eq_true, decide_eq_true_eq, List.all_eq_true] at hf
    exact hf.2 xs hm
  have hRn : R.length ≤ 40 := by
    unfold fewB at hf
    simp only [Bool.and_eq_true, decide_eq_true_eq] at hf
    exact hf.1
  have HR := Lib.hid hR
  clear hB h hf hR
  have BF := Lib.hid (BufAt.fresh w w.heap.size (Nat.le_refl _))
  have B0 := Lib.hid ((Below.refl w.heap.size w).alloc (Nat.le_refl _) (.cells #[.pointer none, .slice none 0 0] 59))
  obtain ⟨b, hb⟩ : ∃ b, b = w.heap.size := ⟨_, rfl⟩
  have BF2 : Hid (BufAt (w.alloc (.cells #[.pointer none, .slice none 0 0] 59)) w.heap.size b []) := Lib.hid (by rw [hb]; exact BF.out)
  clear BF
  go_enter Tryz.func8, Tryz.ntmps8
  go_wp2_with fail
  rw [← hb]
  clear hb
  go_loopw [10] (fun i wr => ∃ (k : Nat), k ≤ n ∧ i = .int .i64 k ∧ Hid (Below w.heap.size w wr) ∧ Hid (BufAt wr w.heap.size b (linesT (R.take k)))) (fun i _ => n - (intOf i).toNat)
  case atStart => exact ⟨0, Nat.zero_le _, rfl, B0, BF2⟩
  case round =>
    obtain ⟨k, hk, rfl, BB, QQ⟩ := hrel
    have hRnn := H.out.1
    by_cases hlt : k < n
    · obtain ⟨b', o', rfl, hc⟩ := (H.out.up BB.out).2 (by omega)
      obtain ⟨A2, n2, c2, xs, hx, hcx, hxs, hok⟩ := hc k hlt
      have X := Lib.hid ((H.out.2 (by omega)))
      have hxnn := hxs.1
      have OK := Lib.hid hok
      have i0' : (0 : Int) ≤ (k : Int) := by omega
      have i1' : (k : Int) < (n : Int) := by omega
      have ht : R.take (k + 1) = R.take k ++ [xs] := by rw [List.take_add_one, hx]; rfl
      have HT : Hid (linesT (R.take (k + 1)) = linesT (R.take k) ++ (rowT xs).drop 1 ++ [10]) := Lib.hid (by rw [ht, linesT_snoc, List.append_assoc])
      have hl30 := (HR.out xs (List.mem_of_getElem? hx)).1
      have hTl : (linesT (R.take k)).length ≤ 661 * (R.take k).length := linesT_len _ (fun ys hy => by
        have h1 := HR.out ys (List.mem_of_mem_take hy)
        have h2 := rowT_len ys h1.2
        omega)
      have hTl2 : (linesT (R.take k)).length ≤ 30000 := by
        have : (R.take k).length ≤ R.length := by rw [List.length_take]; omega
        omega
      have XX : Hid (∀ W, Below w.heap.size w W → IntsAt W A2 n2 xs) := Lib.hid fun W hW => by
        obtain ⟨b1, o1, e1, hc1⟩ := (H.out.up hW).2 (by omega)
        obtain ⟨A3, n3, c3, ys, h1, h2, h3, _⟩ := hc1 k hlt
        cases e1
        have h0 := H.out.2 (by omega)
        obtain ⟨b4, o4, e4, hc4⟩ := h0
        cases e4
        obtain ⟨A5, n5, c5, zs, g1, g2, g3, _⟩ := hc4 k hlt
        have g4 := cell_up BB.out g2
        rw [hcx] at g4
        cases g4
        rw [hx] at g1
        cases g1
        exact g3.up hW
      obtain ⟨T, hT⟩ : ∃ T, T = linesT (R.take k) := ⟨_, rfl⟩
      rw [← hT] at HT hTl2 QQ
      clear hc hx ht hxs hok hT hTl X
      go_wp2_with fail
      go_loopw [16] (fun i wr2 => ∃ (j : Nat), j ≤ n2 ∧ i = .int .i64 j ∧ Hid (Below w.heap.size w wr2) ∧ Hid (BufAt wr2 w.heap.size b (T ++ (rowT (xs.take j)).drop 1))) (fun i _ => n2 - (intOf i).toNat)
      case atStart => exact ⟨0, Nat.zero_le _, rfl, BB, Lib.hid (by simpa [rowT] using QQ.out)⟩
      case round =>
        obtain ⟨j, hj, rfl, B2, Q2⟩ := hrel
        by_cases hlt2 : j < n2
        · obtain ⟨b2, o2, rfl, hc⟩ := (XX.out _ B2.out).2 (by omega)
          have hcj := hc j hlt2
          have hxj : xs[j]? = some (xs.getD j 0) := by rw [List.getD_eq_getElem?_getD, List.getElem?_eq_getElem (by omega)]; rfl
          have hokj := OK.out _ (List.mem_of_getElem? hxj)
          have HN := Lib.hid (rowT_next xs j _ hxj)
          obtain ⟨v, hv⟩ : ∃ v, v = xs.getD j 0 := ⟨_, rfl⟩
          rw [← hv] at HN hokj hcj
          have hz1 := fmt_size hokj
          have j0' : (0 : Int) ≤ (j : Int) := by omega
          have j1' : (j : Int) < (n2 : Int) := by omega
          have hUl : ((rowT (xs.take j)).drop 1).length ≤ 700 := by
            have h1 := rowT_len (xs.take j) (fun y hy => OK.out y (List.mem_of_mem_take hy))
            have h2 : (xs.take j).length ≤ xs.length := by rw [List.length_take]; omega
            rw [List.length_drop]
            omega
          have hvl : (Lib.itoa v).length ≤ 21 := Lib.itoa_length_le v hokj.1 hokj.2
          have HV := Lib.hid hokj
          clear hc hv hxj hokj
          have hlen1 : (T ++ (rowT (xs.take j)).drop 1).length ≤ 900000 := by rw [List.length_append]; omega
          have hlen2 : (T ++ (rowT (xs.take j)).drop 1 ++ [32]).length ≤ 1000000 := by rw [List.length_append]; simp only [List.length_cons, List.length_nil]; omega
          by_cases hj0 : j = 0
          · have hjd : decide ((0 : Int) < (j : Int)) = false := by simp; omega
            have J0 := Lib.hid hj0
            have hjn : (0 < j) = False := by simp [hj0]
            clear hj0
            have HF := Lib.hid (format_any v HV.out wr (E.out.up B2.out))
            go_wp2_with (first | (go_at_call 20; refine HF.out.mono ?_; rintro r w3 ⟨rfl, hb3⟩; have Q3 := Lib.hid (Q2.out.up hb3); have B3 := Lib.hid (below_up B2.out hb3); have WS := Lib.hid (write_buf _ b _ (Lib.itoa v) w3 Q3.out B3.out.size (by omega) (by omega))) | (go_at_call 23; refine WS.out.mono ?_; rintro r w4 ⟨rfl, hq4, hb4, _⟩))
            go_roundw
            case rel => exact ⟨j + 1, by omega, by go_num, Lib.hid (B3.out.trans hb4), Lib.hid (by have h := HN.out; rw [if_pos J0.out, List.nil_append] at h; rw [h]; have h2 := hq4; rw [J0.out] at h2; simpa [rowT] using h2)⟩
            case measure => simp [intOf]; omega
          · have hjp : (0 : Int) < (j : Int) := by omega
            have WB : Hid (Calls Tryz.prog 22 #[.pointer (some ⟨b, 0, none⟩), .int .u8 32] wr fun r w' => r = .returned .nilIface ∧ BufAt w' w.heap.size b (T ++ (rowT (xs.take j)).drop 1 ++ [32]) ∧ Below w.heap.size wr w') := Lib.hid (write_byte _ b _ 32 wr Q2.out B2.out.size (by omega))
            have HF : Hid (∀ W, Below w.heap.size wr W → Calls Tryz.prog 20 #[.int .i64 v, .int .i64 10] W fun e w' => e = .returned (.string (fmtV v)) ∧ Below W.heap.size W w') := Lib.hid fun W hW => format_any v HV.out W (E.out.up (B2.out.trans hW))
            go_wp2_with (first | (go_at_call 22; refine WB.out.mono ?_; rintro r w2 ⟨rfl, hq2, hb2⟩) | (go_at_call 20; refine (HF.out _ hb2).mono ?_; rintro r w3 ⟨rfl, hb3⟩; have Q3 := Lib.hid (hq2.up hb3); have B3 := Lib.hid (below_up (B2.out.trans hb2) hb3); have WS := Lib.hid (write_buf _ b _ (Lib.itoa v) w3 Q3.out B3.out.size (by omega) (by omega))) | (go_at_call 23; refine WS.out.mono ?_; rintro r w4 ⟨rfl, hq4, hb4, _⟩))
            go_roundw
            case rel => exact ⟨j + 1, by omega, by go_num, Lib.hid (B3.out.trans hb4), Lib.hid (by have h := HN.out; rw [if_neg hj0] at h; rw [h]; simpa [List.append_assoc] using hq4)⟩
            case measure => simp [intOf]; omega
        · obtain rfl : n2 = j := by omega
          have QX : Hid (BufAt wr w.heap.size b (T ++ (rowT xs).drop 1)) := Lib.hid (by have h := Q2.out; rw [List.take_of_length_le (by omega)] at h; exact h)
          have hUl : (T ++ (rowT xs).drop 1).length ≤ 900000 := by
            have h1 := rowT_len xs OK.out
            rw [List.length_append, List.length_drop]
            omega
          have WB : Hid (Calls Tryz.prog 22 #[.pointer (some ⟨b, 0, none⟩), .int .u8 10] wr fun r w' => r = .returned .nilIface ∧ BufAt w' w.heap.size b (T ++ (rowT xs).drop 1 ++ [10]) ∧ Below w.heap.size wr w') := Lib.hid (write_byte _ b _ 10 wr QX.out B2.out.size (by omega))
          clear QX Q2
          go_wp2_with (go_at_call 22; refine WB.out.mono ?_; rintro r w2 ⟨rfl, hq2, hb2⟩)
          go_roundw
          case rel => exact ⟨k + 1, by omega, by go_num, Lib.hid (B2.out.trans hb2), Lib.hid (by rw [HT.out]; exact hq2)⟩
          case measure => simp [intOf]; omega
    · obtain rfl : n = k := by omega
      have QX : Hid (BufAt wr w.heap.size b (linesT R)) := Lib.hid (by have h := QQ.out; rw [List.take_of_length_le (by omega)] at h; exact h)
      have SS := Lib.hid (Tryz.Builder_String_any_k w.heap.size b (linesT R) wr QX.out BB.out.size)
      clear QX QQ
      go_wp2_with (go_at_call 24; refine SS.out.mono ?_; rintro r w2 ⟨rfl, _, hb2, _⟩)
      go_ret
      exact ⟨rfl, BB.out.trans hb2⟩
end Go.Proofs.YtgglbjniclkkpaaGreatDoor

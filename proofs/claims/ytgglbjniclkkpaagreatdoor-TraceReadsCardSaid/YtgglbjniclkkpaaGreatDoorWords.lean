/-
  ref.words, ref.lines.
-/
import Derived.Test.YtgglbjniclkkpaaGreatDoorOwn
import Derived.Lib.SplitLaws
import Derived.Deep.AppendLies
import Derived.Deep.Cut
import Derived.Deep.CutRange
import Derived.Deep.CutBlock
namespace Go.Proofs.YtgglbjniclkkpaaGreatDoor
open Go.RowKit
set_option linter.unusedVariables false

/-- The slice at A, of n texts, holds L. -/
def StrsAt (w : World) (A : Option Addr) (n : Nat) (L : List ByteArray) : Prop :=
  L.length = n ∧ (0 < n → ∃ b o, A = some ⟨b, o, none⟩ ∧ ∀ j, j < n → ∃ s, L[j]? = some s ∧ w.cell? ⟨b, o + j, none⟩ = some (.string s))
theorem StrsAt.up {w W : World} {A : Option Addr} {n : Nat} {L : List ByteArray} (h : StrsAt w A n L) (hb : Below w.heap.size w W) : StrsAt W A n L :=
  ⟨h.1, fun hn => by
    obtain ⟨b, o, e, hc⟩ := h.2 hn
    exact ⟨b, o, e, fun j hj => by obtain ⟨s, h1, h2⟩ := hc j hj; exact ⟨s, h1, cell_up hb h2⟩⟩⟩
/-- The texts of a row. -/
theorem strs_block {w : World} {g : Nat} {c : Array Value} {T : TypeId} {L : List ByteArray} (h : w.heap[g]? = some (.cells c T (0, 0))) (hc : c = (L.map Value.string).toArray) : StrsAt w (some ⟨g, 0, none⟩) L.length L :=
  ⟨rfl, fun _ => ⟨g, 0, rfl, fun j hj => ⟨L[j], List.getElem?_eq_getElem hj, by
    subst hc
    rw [cell_of_row w g (0 + j) _ T (0, 0) h, Nat.zero_add]
    simp [List.getElem?_eq_getElem hj]⟩⟩⟩
theorem own_strs {w : World} {B n : Nat} {A : Option Addr} {l c : Nat} {L : List ByteArray} (h : w.ownsRow B 9 1 (.slice A l c) n (L.map Value.string)) : n = l ∧ StrsAt w A n L := by
  obtain ⟨h1, h2⟩ := h
  have hl : L.length = n := by simpa using h1
  rcases h2 with ⟨hv, hn⟩ | ⟨g, cap, cur, hv, hb, hgg, hle, hm, hs, ht⟩
  · cases hv
    exact ⟨hn, ⟨hl, fun h => absurd h (by omega)⟩⟩
  · cases hv
    refine ⟨rfl, hl, fun hn => ⟨g, 0, rfl, fun j hj => ⟨L[j], List.getElem?_eq_getElem (by omega), ?_⟩⟩⟩
    have hj2 : (L.map Value.string)[j]? = some (.string L[j]) := by
      rw [List.getElem?_map, List.getElem?_eq_getElem (by omega)]
      rfl
    rw [← ht, List.getElem?_take] at hj2
    split at hj2
    · rw [Nat.zero_add, cell_of_row w g j cur 9 (0, 0) hgg]
      simpa using hj2
    · cases hj2
def piecesV (c : UInt8) (s : ByteArray) : List ByteArray := (piecesGo c [] s.data.toList).map ofL
def wordsV (s : ByteArray) : List ByteArray := (wordsGo 32 [] s.data.toList).map ofL
theorem split_len (c : UInt8) (s : ByteArray) : (piecesV c s).length = Lib.countB s ⟨#[c]⟩ + 1 := by
  unfold piecesV
  rw [← splitB_all]
  exact Lib.splitB_all ⟨#[c]⟩ (Nat.le_refl 1) 0 _ s rfl
theorem split_any (c : UInt8) (s : ByteArray) (hs : s.size ≤ 1500) (w : World) (h : Env w) : Calls Tryz.prog 26 #[.string s, .string ⟨#[c]⟩] w fun e w' => ∃ A n cp, e = .returned (.slice A n cp) ∧ n ≤ 1501 ∧ n ≤ cp ∧ StrsAt w' A n (piecesV c s) ∧ Below w.heap.size w w' := by
  obtain ⟨m, hm⟩ := h.maxl
  refine (Tryz.strings_Split s ⟨#[c]⟩ m w (by omega) hm (Nat.le_refl 1)).mono fun e w' h => ?_
  obtain ⟨rfl, rfl⟩ := h
  rw [← split_len, splitB_all]
  have hl : (piecesV c s).length ≤ 1501 := by
    unfold piecesV
    rw [List.length_map]
    have := pieces_length c s.data.toList []
    have h2 : s.data.toList.length = s.size := by simp
    omega
  exact ⟨_, _, _, rfl, hl, Nat.le_refl _, strs_block (heap_alloc_new w _) rfl, (Below.refl _ _).alloc (Nat.le_refl _) _⟩
theorem isEmpty_ne {x : ByteArray} (h : ¬ x = ⟨#[]⟩) : x.toList.isEmpty = false := by
  rw [ByteArray.toList_eq]
  cases hl : x.data.toList with
  | nil => exact absurd (by cases x; simp at hl; simp [hl]) h
  | cons _ _ => rfl
/-- A text's lines. -/
def linesV (s : ByteArray) : List ByteArray := if 1 < (piecesV 10 s).length ∧ (piecesV 10 s).getLast? = some ⟨#[]⟩ then (piecesV 10 s).dropLast else piecesV 10 s
theorem infoS : (Tryz.prog.info? 9).map (fun i => (i.zero, i.size, i.bytes)) = some (some (.string ⟨#[]⟩), 1, 16) := by kernel_rfl
theorem words_len (s : ByteArray) : (wordsV s).length ≤ s.size + 1 := by
  unfold wordsV
  rw [words_pieces, List.length_map]
  have h1 := List.length_filter_le (fun x => decide (x ≠ [])) (piecesGo 32 [] s.data.toList)
  have h2 := pieces_length 32 s.data.toList []
  have h3 : s.data.toList.length = s.size := by simp
  omega
theorem words_filter (s : ByteArray) : (piecesV 32 s).filter (fun x => decide (x ≠ ⟨#[]⟩)) = wordsV s := by
  have h := split_words s
  rw [splitB_all] at h
  exact h
set_option maxHeartbeats 2000000 in
set_option maxRecDepth 100000 in
/-- ref.words. -/
theorem words_any (s : ByteArray) (hs : s.size ≤ 1500) (w : World) (h : Env w) : Calls Tryz.prog 12 #[.string s] w fun e w' => ∃ A n c, e = .returned (.slice A n c) ∧ n ≤ 1501 ∧ StrsAt w' A n (wordsV s) ∧ Below w.heap.size w w' := by
  have HS := Lib.hid (split_any 32 s hs w h)
  have HW := Lib.hid (words_filter s)
  have HL := Lib.hid (words_len s)
  obtain ⟨i0, hi, hz0, hz1, hz2⟩ := info_parts infoS
  clear h
  go_enter Tryz.func12, Tryz.ntmps12
  go_wp2_with (go_at_call 26; refine HS.out.mono ?_; rintro r w1 ⟨A, n, cp, rfl, hn, _, hst, hb1⟩)
  have H1 := Lib.hid hst
  have B1 := Lib.hid hb1
  clear hst hb1
  go_wp2_with fail
  go_loopw [3, 9] (fun l i wr => ∃ (k m : Nat) (ys : List ByteArray), k ≤ n ∧ m ≤ k ∧ i = .int .i64 k ∧ wr.ownsRow w1.heap.size 9 1 l m (ys.map Value.string) ∧ Below w1.heap.size w1 wr ∧ Hid (ys ++ ((piecesV 32 s).drop k).filter (fun x => decide (x ≠ ⟨#[]⟩)) = wordsV s)) (fun _ i _ => n - (intOf i).toNat)
  case atStart => exact ⟨0, 0, [], Nat.zero_le _, Nat.le_refl _, rfl, World.ownsRow_nil _ _ _ _, Below.refl _ _, Lib.hid (by rw [List.drop_zero]; exact HW.out)⟩
  case round =>
    obtain ⟨k, m, ys, hk, hm, rfl, ho, hb, F⟩ := hrel
    have OO := Lib.hid ho
    have BB := Lib.hid hb
    have hym : ys.length = m := by have := ho.1; simpa using this
    clear ho hb
    by_cases hlt : k < n
    · obtain ⟨b, o, rfl, hc⟩ := (H1.out.up BB.out).2 (by omega)
      obtain ⟨x, hx, hcx⟩ := hc k hlt
      have hdr : (piecesV 32 s).drop k = x :: (piecesV 32 s).drop (k + 1) := by
        obtain ⟨hl', e⟩ := List.getElem?_eq_some_iff.1 hx
        rw [List.drop_eq_getElem_cons hl', e]
      have i0' : (0 : Int) ≤ (k : Int) := by omega
      have i1' : (k : Int) < (n : Int) := by omega
      by_cases he : x = ⟨#[]⟩
      · have F2 : Hid (ys ++ ((piecesV 32 s).drop (k + 1)).filter (fun x => decide (x ≠ ⟨#[]⟩)) = wordsV s) := Lib.hid (by have h := F.out; rw [hdr, List.filter_cons] at h; simpa [he] using h)
        subst he
        clear hc hdr hx F
        go_wp2_with fail
        go_roundw
        case rel => exact ⟨k + 1, m, ys, by omega, by omega, by go_num, OO.out, BB.out, F2⟩
        case measure => simp [intOf]; omega
      · have hne := isEmpty_ne he
        have F2 : Hid ((ys ++ [x]) ++ ((piecesV 32 s).drop (k + 1)).filter (fun x => decide (x ≠ ⟨#[]⟩)) = wordsV s) := Lib.hid (by have h := F.out; rw [hdr, List.filter_cons] at h; simpa [he] using h)
        clear hc hdr hx F
        go_wp2_with (at_builtin; refine wpList_append_own _ rfl _ _ 38 rfl w1.heap.size 9 i0 (.string ⟨#[]⟩) 1 16 Tryz.underlying38 hi hz0 hz1 hz2 rfl (by decide) _ _ _ rfl (OO.out.alloc _) ⟨wr.heap.size, 0, none⟩ 1 1 [Value.string x] rfl rfl ?c1 ?c2 ?c3 ?c4 ?c5 ?_)
        case c1 => exact World.news_of_block (cs := #[Value.string x]) (t := 9) (fr := (0, 0)) (heap_alloc_new wr _)
        case c2 => simp [Value.oneCell']
        case c3 => unfold maxLen; omega
        case c4 => omega
        case c5 => have := BB.out.size; simp; omega
        intro v' w2 hown hgrow _
        have B2 := Lib.hid (below_own (BB.out.alloc BB.out.size _) hgrow (fun x e => (own_lt' OO.out x e).1))
        have O2 : Hid (w2.ownsRow w1.heap.size 9 1 v' (m + 1) ((ys ++ [x]).map Value.string)) := Lib.hid (by rw [List.map_append]; exact hown)
        obtain ⟨A', c', rfl⟩ := own_slice' hown
        clear hown hgrow
        go_wp2_with fail
        go_roundw
        case rel => exact ⟨k + 1, m + 1, ys ++ [x], by omega, by omega, by go_num, O2.out, B2.out, F2⟩
        case measure => simp [intOf]; omega
    · have F2 : Hid (ys = wordsV s) := Lib.hid (by have h := F.out; rw [List.drop_of_length_le (by rw [H1.out.1]; omega)] at h; simpa using h)
      obtain ⟨A', c', rfl⟩ := own_slice' OO.out
      clear F
      go_wp2_with fail
      go_ret
      exact ⟨A', m, c', rfl, by omega, by rw [← F2.out]; exact (own_strs OO.out).2, below_up B1.out BB.out⟩
set_option maxHeartbeats 2000000 in
set_option maxRecDepth 100000 in
/-- ref.lines. -/
theorem lines_any (s : ByteArray) (hs : s.size ≤ 1500) (w : World) (h : Env w) : Calls Tryz.prog 11 #[.string s] w fun e w' => ∃ A n c, e = .returned (.slice A n c) ∧ n ≤ 1501 ∧ StrsAt w' A n (linesV s) ∧ Below w.heap.size w w' := by
  have HS := Lib.hid (split_any 10 s hs w h)
  clear h
  go_enter Tryz.func11, Tryz.ntmps11
  go_upto_region 2 with (go_at_call 26; refine HS.out.mono ?_; rintro r w1 ⟨A, n, cp, rfl, hn, hncp, hst, hb1⟩)
  have H1 := Lib.hid hst
  have B1 := Lib.hid hb1
  have hl := hst.1
  clear hst hb1
  by_cases h1 : 1 < n
  · obtain ⟨m, rfl⟩ : ∃ m, n = m + 1 := ⟨n - 1, by omega⟩
    obtain ⟨b, o, rfl, hc⟩ := H1.out.2 (by omega)
    obtain ⟨x, hx, hcx⟩ := hc m (by omega)
    have hlast : (piecesV 10 s).getLast? = some x := by rw [List.getLast?_eq_getElem?, hl]; exact hx
    have d1 : decide ((1 : Int) < (m : Int) + 1) = true := by simp; omega
    by_cases he : x = ⟨#[]⟩
    · have HV : Hid (linesV s = (piecesV 10 s).dropLast) := Lib.hid (by unfold linesV; rw [if_pos ⟨by omega, by rw [hlast, he]⟩])
      subst he
      go_wp2_with fail
      go_ret
      refine ⟨_, m, cp, rfl, by omega, ?_, B1.out⟩
      rw [HV.out]
      refine ⟨by rw [List.length_dropLast]; omega, fun hm => ⟨b, o, rfl, fun j hj => ?_⟩⟩
      obtain ⟨y, hy, hcy⟩ := hc j (by omega)
      refine ⟨y, ?_, hcy⟩
      rw [List.getElem?_dropLast, if_pos (by omega)]
      exact hy
    · have HV : Hid (linesV s = piecesV 10 s) := Lib.hid (by
        unfold linesV
        rw [if_neg]
        rintro ⟨_, h⟩
        rw [hlast] at h
        exact he (Option.some.inj h))
      have hne := isEmpty_ne he
      clear hc hlast hx
      go_wp2_with fail
      go_ret
      exact ⟨_, m + 1, cp, rfl, hn, by rw [HV.out]; exact H1.out, B1.out⟩
  · have d1 : decide ((1 : Int) < (n : Int)) = false := by simp; omega
    have HV : Hid (linesV s = piecesV 10 s) := Lib.hid (by unfold linesV; rw [if_neg (by omega)])
    go_wp2_with fail
    go_ret
    exact ⟨A, n, cp, rfl, hn, by rw [HV.out]; exact H1.out, B1.out⟩
end Go.Proofs.YtgglbjniclkkpaaGreatDoor

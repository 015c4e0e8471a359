/-
  The law TraceReads: the walk.
-/
import Derived.Test.YtgglbjniclkkpaaGreatDoorRead
import Derived.Test.YtgglbjniclkkpaaGreatDoorRefTicks
import Derived.Test.YtgglbjniclkkpaaGreatDoorPrint
import Derived.Deep.RegionHeld3
import Derived.Deep.Cut
import Derived.Deep.CutRange
import Derived.Deep.CutBlock
namespace Go.Proofs.YtgglbjniclkkpaaGreatDoor
open Go.RowKit
set_option linter.unusedVariables false

theorem rowGo_len : ∀ (ws : List ByteArray) (acc r : List Int), rowGo acc ws = some r → r.length = acc.length + ws.length
  | [], acc, r, h => by
    rw [rowGo] at h
    cases h
    simp
  | x :: ws, acc, r, h => by
    rw [rowGo] at h
    split at h
    · cases h
    · have := rowGo_len ws _ r h
      simp at this ⊢
      omega
theorem ticksGo_rows : ∀ (ls : List ByteArray) (out : List (List Int)), (∀ xs ∈ out, xs.length ≤ 1501) → (∀ l ∈ ls, l.size ≤ 1500) → ∀ xs ∈ (ticksGo out ls).1, xs.length ≤ 1501
  | [], out, h, _, xs, hx => h xs (by rw [ticksGo] at hx; exact hx)
  | l :: ls, out, h, hl, xs, hx => by
    rw [ticksGo] at hx
    split at hx
    · cases hx
    · rename_i row hr
      split at hx
      · cases hx
      · refine ticksGo_rows ls _ (fun ys hy => ?_) (fun y hy => hl y (by simp [hy])) xs hx
        rcases List.mem_append.1 hy with hy | hy
        · exact h ys hy
        · obtain rfl : ys = row := by simpa using hy
          have h1 := rowGo_len _ _ _ hr
          have h2 := words_len l
          have h3 := hl l (by simp)
          simp at h1
          omega
theorem readV_rows (s : ByteArray) (hs : s.size ≤ 1500) : ∀ xs ∈ (readV s).1, xs.length ≤ 1501 := by
  unfold readV
  split
  · intro xs hx; cases hx
  · exact ticksGo_rows _ _ (fun xs hx => by cases hx) (fun l hl => Nat.le_trans (line_size hl) hs)
set_option maxRecDepth 100000 in
set_option maxHeartbeats 4000000 in
theorem reads_any (s : ByteArray) (B : Option Addr) (n c : Nat) (R : List (List Int)) (w : World) (h : Env w) (hB : RowsAt w B n R) :
    Calls Tryz.prog 3 #[.string s, .slice B n c] w fun r w' => r = .returned (.bool true) ∧ Below w.heap.size w w' := by
  have E := Lib.hid h
  have H := Lib.hid hB
  by_cases hs : s.size ≤ 1500
  · have hd : decide ((1500 : Int) < (s.size : Int)) = false := by simp; omega
    have HF := Lib.hid (few_any B n c R w hB)
    by_cases hf : fewB R = true
    · rw [hf] at HF
      have FW := Lib.hid hf
      have HS := Lib.hid hs
      have HRT := fun W hW => refTicks_any s hs W hW
      have HRD := fun W hW => read_any s hs W hW
      have HRT' := Lib.hid HRT
      have HRD' := Lib.hid HRD
      clear h hB hf HRT HRD
      have HRW := Lib.hid (readV_rows s hs)
      obtain ⟨TT, hT⟩ : ∃ T, T = (readV s).1 := ⟨_, rfl⟩
      obtain ⟨fe, hfe⟩ : ∃ T, T = (readV s).2.1 := ⟨_, rfl⟩
      obtain ⟨fp, hfp⟩ : ∃ T, T = (readV s).2.2 := ⟨_, rfl⟩
      rw [← hT, ← hfe, ← hfp] at HRT' HRD'
      rw [← hT] at HRW
      clear hT hfe hfp
      go_enter Tryz.func3, Tryz.ntmps3
      go_upto_region 4 with (first | (go_at_call 4; refine HF.out.mono ?_; rintro r w1 ⟨rfl, hb1⟩; have B1 := Lib.hid hb1; clear hb1) | (go_at_call 5; refine (HRT'.out _ (E.out.up B1.out)).mono ?_; rintro r w2 ⟨A2, n2, c2, rfl, hn2, ht2, hb2⟩))
      have B2 := Lib.hid (below_up B1.out hb2)
      have bx := (Below.refl w2.heap.size w2).alloc (Nat.le_refl _) (.cells #[.int .i64 fe, .int .i64 fp] 26)
      have G6 := Lib.hid (heap_alloc_new w2 (.cells #[.int .i64 fe, .int .i64 fp] 26))
      have T2 := Lib.hid (ht2.up bx)
      have BX := Lib.hid (below_up B2.out bx)
      obtain ⟨g6, hg6⟩ : ∃ g, g = w2.heap.size := ⟨_, rfl⟩
      obtain ⟨W2, hW2⟩ : ∃ X, X = w2.alloc (.cells #[.int .i64 fe, .int .i64 fp] 26) := ⟨_, rfl⟩
      rw [← hg6, ← hW2] at G6
      rw [← hW2] at T2 BX
      rw [← hg6, ← hW2]
      clear bx ht2 hb2 hg6 hW2 B1 B2 HRT'
      have HR2 := Lib.hid (HRD'.out W2 (E.out.up BX.out))
      go_upto_region 5 with (go_at_call 6; refine HR2.out.mono ?_; rintro r w3 ⟨A3, n3, c3, ev, rfl, hn3, ht3, her, hb3⟩)
      have B3 := Lib.hid (below_up BX.out hb3)
      have T3 := Lib.hid ht3
      have T2' := Lib.hid (T2.out.up hb3)
      have G6' := grown_blk (grown_below none hb3) G6.out (by simp)
      obtain ⟨d0, d1⟩ := two_cells G6'
      obtain rfl : n3 = n2 := by rw [← T3.out.1, T2'.out.1]
      have IS := is_any ev fe fp fe fp w3 (E.out.up B3.out).hand her
      have e1 : (fe == fe && fp == fp) = true := by simp
      rw [e1] at IS
      have HIS := Lib.hid IS
      have HPR : Hid (∀ W, Below w.heap.size w W → Calls Tryz.prog 8 #[.slice B n c] W fun e w' => e = .returned (.string (ofL (linesT R))) ∧ Below W.heap.size W w') := Lib.hid fun W hW => print_any B n c R W (E.out.up hW) (H.out.up hW) FW.out
      have HPT : Hid (∀ W, Below w.heap.size w W → Calls Tryz.prog 9 #[.slice B n c] W fun e w' => e = .returned (.string (ofL (linesT R))) ∧ Below W.heap.size W w') := Lib.hid fun W hW => printTicks_any B n c R W (E.out.up hW) (H.out.up hW) FW.out
      obtain ⟨PP, hPP⟩ : ∃ q, q = ofL (linesT R) := ⟨_, rfl⟩
      rw [← hPP] at HPR HPT
      clear IS her e1 hPP ht3 HR2 HRD'
      go_wp2_with (first | (go_at_call 7; refine HIS.out.mono ?_; rintro r w4 ⟨rfl, hb4⟩; have B4 := Lib.hid (below_up B3.out hb4)) | (go_at_call 8; refine (HPR.out _ B4.out).mono ?_; rintro r w5 ⟨rfl, hb5⟩; have B5 := Lib.hid (below_up B4.out hb5)) | (go_at_call 9; refine (HPT.out _ B5.out).mono ?_; rintro r w6 ⟨rfl, hb6⟩; have B6 := Lib.hid (below_up B5.out hb6)))
      have X3 := Lib.hid (((T3.out.up hb4).up hb5).up hb6)
      have X2 := Lib.hid (((T2'.out.up hb4).up hb5).up hb6)
      clear hb3 hb4 hb5 hb6 T3 T2' d0 d1 G6'
      go_loopw [9] (fun i wr => ∃ k : Nat, k ≤ n3 ∧ i = .int .i64 k ∧ Hid (Below w6.heap.size w6 wr)) (fun i _ => n3 - (intOf i).toNat)
      case atStart => exact ⟨0, Nat.zero_le _, rfl, Lib.hid (Below.refl _ _)⟩
      case round =>
        obtain ⟨k, hk, rfl, BB⟩ := hrel
        by_cases hlt : k < n3
        · obtain ⟨bx, ox, rfl, hcx⟩ := (X3.out.up BB.out).2 (by omega)
          obtain ⟨Bx, lx, cx, xs, hx1, hx2, hx3⟩ := hcx k hlt
          obtain ⟨by', oy, rfl, hcy⟩ := (X2.out.up BB.out).2 (by omega)
          obtain ⟨By, ly, cy, ys, hy1, hy2, hy3⟩ := hcy k hlt
          obtain rfl : xs = ys := by rw [hx1] at hy1; exact Option.some.inj hy1
          have hlx : lx ≤ 65536 := by
            have h1 := HRW.out xs (List.mem_of_getElem? hx1)
            have h2 := hx3.1
            omega
          have SN := sameNumsL_any Bx By lx cx ly cy xs xs wr.drew (hx3.up (Below.refl _ _).drew) (hy3.up (Below.refl _ _).drew) hlx
          rw [sameB_refl] at SN
          have HSN := Lib.hid SN
          have i0' : (0 : Int) ≤ (k : Int) := by omega
          have i1' : (k : Int) < (n3 : Int) := by omega
          clear hcx hcy hx1 hy1 hx3 hy3 SN
          go_upto_region 10 with fail
          go_region_held3 (fun X => X.cell? ⟨bx, ox + k, none⟩ = some (.slice Bx lx cx) ∧ X.cell? ⟨by', oy + k, none⟩ = some (.slice By ly cy))
            ((first | exact ⟨hx2, hy2⟩ | exact ⟨cell_up hb7 hx2, cell_up hb7 hy2⟩ | fail))
            (first | (go_at_call 10; refine HSN.out.mono ?_; rintro r w7 ⟨rfl, hb7⟩) | fail)
          all_goals
            go_wp2_with fail
            go_roundw
            case rel => exact ⟨k + 1, by omega, by go_num, Lib.hid (below_up BB.out.drew hb7)⟩
            case measure => simp [intOf]; omega
        · obtain rfl : n3 = k := by omega
          go_wp2_with fail
          go_ret
          exact ⟨rfl, below_up B6.out BB.out⟩
    · have hf' : fewB R = false := by simpa using hf
      rw [hf'] at HF
      clear h hB hf hf'
      go_enter Tryz.func3, Tryz.ntmps3
      go_wp2_with (go_at_call 4; refine HF.out.mono ?_; rintro r w1 ⟨rfl, hb1⟩)
      go_ret
      exact ⟨rfl, hb1⟩
  · have hd : (1500 : Int) < (s.size : Int) := by omega
    clear h hB hs
    go_enter Tryz.func3, Tryz.ntmps3
    go_wp2_with fail
    go_ret
    exact ⟨rfl, Below.refl _ _⟩
end Go.Proofs.YtgglbjniclkkpaaGreatDoor

/-
  ref.WriteImage: code as bytes.
-/
import Derived.Test.YtgglbjniclkkpaaDoorRefList
import Derived.Test.YtgglbjniclkkpaaDoorAsksRow
import Derived.Test.YtgglbjniclkkpaaDoorRefCheck
import Derived.Test.YtgglbjniclkkpaaDoorImgWrite
import Derived.RegionTactic
import Derived.ChangeAlike
import Derived.Deep.RegionWith
import Derived.Deep.CutRange
import Derived.Outline
namespace Go.Proofs.YtgglbjniclkkpaaDoor
open Go.RowKit
set_option linter.unusedVariables false

set_option maxRecDepth 100000 in
set_option maxHeartbeats 4000000 in
theorem refWrite_bad (P : Int) (A1 A2 A3 A4 A5 A6 : Option Addr) (n1 c1 n2 c2 n3 c3 n4 c4 n5 c5 n6 c6 : Nat) (N : NetP) (w : World) (h : NetAt w P A1 A2 A3 A4 A5 A6 n1 c1 n2 c2 n3 c3 n4 c4 n5 c5 n6 c6 N) (hfi : FineAt w) (hj : (judgeV N).1 ≠ 0) :
    Calls Tryd.prog 16 #[.agg #[.int .i64 P, .slice A1 n1 c1, .slice A2 n2 c2, .slice A3 n3 c3, .slice A4 n4 c4, .slice A5 n5 c5, .slice A6 n6 c6]] w fun r w' => r = .returned (.tuple #[.string ⟨#[]⟩, .agg #[.int .i64 (judgeV N).1, .int .i64 (judgeV N).2]]) ∧ Below w.heap.size w w' := by
  have hb : Below w.heap.size w ((w.alloc (.cells #[.int .i64 P, .slice A1 n1 c1, .slice A2 n2 c2, .slice A3 n3 c3, .slice A4 n4 c4, .slice A5 n5 c5, .slice A6 n6 c6] 26)).alloc (Obj.cells #[.int .i64 0, .int .i64 0] 38)) := (((Below.refl w.heap.size w).alloc (Nat.le_refl _) (Obj.cells #[.int .i64 P, .slice A1 n1 c1, .slice A2 n2 c2, .slice A3 n3 c3, .slice A4 n4 c4, .slice A5 n5 c5, .slice A6 n6 c6] 26)).alloc (by simp) (Obj.cells #[.int .i64 0, .int .i64 0] 38))
  have hch := ref_any P A1 A2 A3 A4 A5 A6 n1 c1 n2 c2 n3 c3 n4 c4 n5 c5 n6 c6 N ((w.alloc (.cells #[.int .i64 P, .slice A1 n1 c1, .slice A2 n2 c2, .slice A3 n3 c3, .slice A4 n4 c4, .slice A5 n5 c5, .slice A6 n6 c6] 26)).alloc (Obj.cells #[.int .i64 0, .int .i64 0] 38)) (h.up hb) ⟨cell_up hb hfi.1, cell_up hb hfi.2⟩
  have hf2 := hfi
  unfold GivesFault at hch
  obtain ⟨J1, hJ1⟩ : ∃ j, j = (judgeV N).1 := ⟨_, rfl⟩
  obtain ⟨J2, hJ2⟩ : ∃ j, j = (judgeV N).2 := ⟨_, rfl⟩
  rw [← hJ1, ← hJ2] at hch
  rw [← hJ1, ← hJ2]
  rw [← hJ1] at hj
  have HCH := Lib.hid hch
  have HF := Lib.hid hf2
  have HB := Lib.hid hb
  have hjb : (J1 == 0) = false := by simpa using hj
  have HR := Lib.hid (rcell w (Obj.cells #[.int .i64 P, .slice A1 n1 c1, .slice A2 n2 c2, .slice A3 n3 c3, .slice A4 n4 c4, .slice A5 n5 c5, .slice A6 n6 c6] 26))
  clear hb hch h hfi hf2 hJ1 hJ2 hj
  go_enter Tryd.func16, Tryd.ntmps16
  go_wp2_with (go_at_call 15; refine HCH.out.mono ?_; rintro r w1 ⟨rfl, hb1⟩; have x0 := cell_up (below_up HB.out hb1) HF.out.1; have x1 := cell_up (below_up HB.out hb1) HF.out.2; have x2 := Lib.cell?_alloc_marked (.cells #[.int .i64 J1, .int .i64 J2] 38) x0; have x3 := Lib.cell?_alloc_marked (.cells #[.int .i64 J1, .int .i64 J2] 38) x1)
  have hb2 := (Below.refl w1.heap.size w1).alloc (Nat.le_refl _) (Obj.cells #[.int .i64 J1, .int .i64 J2] 38)
  obtain ⟨v0, v1, z0, z1, gl⟩ := HR.out.up (below_up hb1 hb2)
  have B2 := Lib.hid (below_up HB.out (below_up hb1 hb2))
  clear hb1 hb2 x0 x1 x2 x3
  go_region
  all_goals
    go_wp2
    exact bodyPost_ret (v := .tuple #[.string ⟨#[]⟩, .agg #[.int .i64 J1, .int .i64 J2]]) (by simp [results, Tryd.results16, go_sem, v0, v1]) rfl ⟨rfl, (B2.out.drew.setCell (Nat.le_succ _) _).setCell (Nat.le_succ _) _⟩
/-- What holds while ref.WriteImage runs. -/
structure QSt (w wr : World) (b : Nat) (cs : Array Value) (bs : List UInt8) : Prop where
  box : wr.heap[w.heap.size]? = some (.cells cs 26 (0, 0))
  res : wr.heap[w.heap.size + 1]? = some (.cells #[.int .i64 0, .int .i64 0] 38 (0, 0))
  buf : BufAt wr w.heap.size b bs
  below : Below w.heap.size w wr
  lt : w.heap.size + 1 < b
theorem QSt.next {w W w' : World} {b : Nat} {cs : Array Value} {bs bs' : List UInt8} (h : QSt w W b cs bs) (hc : BufAt w' w.heap.size b bs') (hb : Below w.heap.size W w') (hk : Lib.OthersKept 5 (some b) W w') : QSt w w' b cs bs' :=
  ⟨hk _ _ h.box (fun e => by have := h.lt; simp at e; omega) (fun c fz e => by cases e), hk _ _ h.res (fun e => by have := h.lt; simp at e; omega) (fun c fz e => by cases e), hc, h.below.trans hb, h.lt⟩
theorem QSt.up {w W w' : World} {b : Nat} {cs : Array Value} {bs : List UInt8} (h : QSt w W b cs bs) (hb : Below W.heap.size W w') : QSt w w' b cs bs :=
  ⟨(hb.block _ (lt_of_block h.box)).trans h.box, (hb.block _ (lt_of_block h.res)).trans h.res, h.buf.up hb, below_up h.below hb, h.lt⟩
theorem QSt.cells {w W : World} {b : Nat} {bs : List UInt8} {P : Int} {A1 A2 A3 A4 A5 A6 : Option Addr} {n1 c1 n2 c2 n3 c3 n4 c4 n5 c5 n6 c6 : Nat} (h : QSt w W b #[.int .i64 P, .slice A1 n1 c1, .slice A2 n2 c2, .slice A3 n3 c3, .slice A4 n4 c4, .slice A5 n5 c5, .slice A6 n6 c6] bs) : NCells W w.heap.size P A1 A2 A3 A4 A5 A6 n1 c1 n2 c2 n3 c3 n4 c4 n5 c5 n6 c6 := ncells_of_box h.box
theorem QSt.rcell {w W : World} {b : Nat} {cs : Array Value} {bs : List UInt8} (h : QSt w W b cs bs) : RCell W (w.heap.size + 1) :=
  ⟨by simp [World.cell?, h.res], by simp [World.cell?, h.res], by simp [World.frozen?, h.res], by simp [World.frozen?, h.res], lt_of_block h.res⟩
theorem BufAt.ne {W : World} {B b g : Nat} {bs : List UInt8} {e : TypeId} {C : Array Value} (h : BufAt W B b bs) (he : e ≠ 84) (hC : W.heap[g]? = some (.cells C e (0, 0))) : g ≠ b := by
  rintro rfl
  rcases h with ⟨_, v, h1, _⟩ | ⟨_, v, h1, _⟩ <;> (rw [h1] at hC; cases hC; exact he rfl)
/-- What holds in a round. -/
structure PSt (w wr : World) (b : Nat) (cs : Array Value) (bs : List UInt8) (g : Nat) (s : Stp) : Prop where
  st : QSt w wr b cs bs
  sb : wr.heap[g]? = some (.cells #[.int .i64 s.c, .int .i64 s.d, .int .i64 s.a, .int .i64 s.b, .int .i64 s.e] 31 (0, 0))
theorem PSt.start {w wr : World} {b : Nat} {cs : Array Value} {bs : List UInt8} (s : Stp) (h : QSt w wr b cs bs) : PSt w (wr.alloc (.cells #[.int .i64 s.c, .int .i64 s.d, .int .i64 s.a, .int .i64 s.b, .int .i64 s.e] 31)) b cs bs wr.heap.size s :=
  ⟨h.up ((Below.refl _ _).alloc (Nat.le_refl _) _), heap_alloc_new _ _⟩
theorem PSt.up {w W w' : World} {b g : Nat} {s : Stp} {cs : Array Value} {bs : List UInt8} (h : PSt w W b cs bs g s) (hb : Below W.heap.size W w') : PSt w w' b cs bs g s :=
  ⟨h.st.up hb, (hb.block _ (lt_of_block h.sb)).trans h.sb⟩
theorem PSt.next {w W w' : World} {b g : Nat} {s : Stp} {cs : Array Value} {bs bs' : List UInt8} (h : PSt w W b cs bs g s) (hc : BufAt w' w.heap.size b bs') (hb : Below w.heap.size W w') (hk : Lib.OthersKept 5 (some b) W w') : PSt w w' b cs bs' g s :=
  ⟨h.st.next hc hb hk, hk _ _ h.sb (by simpa using h.st.buf.ne (by decide) h.sb) (fun c fz e => by cases e)⟩
theorem PSt.drew {w W : World} {b g : Nat} {s : Stp} {cs : Array Value} {bs : List UInt8} (h : PSt w W b cs bs g s) : PSt w W.drew b cs bs g s :=
  ⟨⟨h.st.box, h.st.res, h.st.buf, h.st.below.drew, h.st.lt⟩, h.sb⟩
theorem RowAt.up {w W : World} {A : Option Addr} {n : Nat} {xs : List Int} (h : RowAt w A n xs) (hb : Below w.heap.size w W) : RowAt W A n xs :=
  ⟨h.1.up hb, fun hn => by obtain ⟨b, C, e, hC⟩ := h.2 hn; exact ⟨b, C, e, (hb.block _ (lt_of_block hC)).trans hC⟩⟩
theorem RowAt.next {w W w' : World} {b : Nat} {cs : Array Value} {bs : List UInt8} {A : Option Addr} {n : Nat} {xs : List Int} (h : RowAt W A n xs) (hq : QSt w W b cs bs) (hk : Lib.OthersKept 5 (some b) W w') : RowAt w' A n xs := by
  have hp : ∀ g C, W.heap[g]? = some (.cells C 3 (0, 0)) → g ≠ b := fun g C hC => hq.buf.ne (by decide) hC
  refine ⟨ints_kept (e := 3) (by decide) h.1 h.2 (fun _ g C _ hC => hp g C hC) hk, fun hn => ?_⟩
  obtain ⟨g, C, e, hC⟩ := h.2 hn
  exact ⟨g, C, e, hk g _ hC (by simpa using hp g C hC) (fun c fz e => by cases e)⟩
theorem steps_fine (P m : Int) : ∀ (cs : List Stp) (i : Nat), (stepsV P m cs i).1 = 0 → (stepsV P m cs i).2 = -1
  | [], i, _ => rfl
  | s :: r, i, h => by
    unfold stepsV at *
    by_cases h0 : stepV P m s = 0
    · rw [if_pos h0] at h ⊢; exact steps_fine P m r _ h
    · rw [if_neg h0] at h; exact absurd h h0
theorem judge_fine {N : NetP} (h : (judgeV N).1 = 0) : (judgeV N).2 = -1 := by
  unfold judgeV at *
  by_cases h1 : N.places < 0
  · rw [if_pos h1] at h; cases h
  rw [if_neg h1] at h ⊢
  by_cases h2 : (N.first.length : Int) ≠ N.places
  · rw [if_pos h2] at h; cases h
  rw [if_neg h2] at h ⊢
  by_cases h3 : (N.ins ++ (N.outs ++ N.keeps)).any (fun p => !placeB N.places p) = true
  · rw [if_pos h3] at h; cases h
  rw [if_neg h3] at h ⊢
  by_cases h4 : twiceV [] N.ins = true
  · rw [if_pos h4] at h; cases h
  rw [if_neg h4] at h ⊢
  exact steps_fine _ _ _ _ h
set_option maxRecDepth 100000 in
set_option maxHeartbeats 8000000 in
theorem refWrite_ok (P : Int) (A1 A2 A3 A4 A5 A6 : Option Addr) (n1 c1 n2 c2 n3 c3 n4 c4 n5 c5 n6 c6 : Nat) (N : NetP) (w : World) (h : NetAt w P A1 A2 A3 A4 A5 A6 n1 c1 n2 c2 n3 c3 n4 c4 n5 c5 n6 c6 N) (hok : OkNet N) (hfi : FineAt w) (hj : (judgeV N).1 = 0) :
    Calls Tryd.prog 16 #[.agg #[.int .i64 P, .slice A1 n1 c1, .slice A2 n2 c2, .slice A3 n3 c3, .slice A4 n4 c4, .slice A5 n5 c5, .slice A6 n6 c6]] w fun r w' => r = .returned (.tuple #[.string ⟨(imageV N).toArray⟩, .agg #[.int .i64 0, .int .i64 (-1)]]) ∧ Below w.heap.size w w' := by
  have hb : Below w.heap.size w ((w.alloc (.cells #[.int .i64 P, .slice A1 n1 c1, .slice A2 n2 c2, .slice A3 n3 c3, .slice A4 n4 c4, .slice A5 n5 c5, .slice A6 n6 c6] 26)).alloc (Obj.cells #[.int .i64 0, .int .i64 0] 38)) := (((Below.refl w.heap.size w).alloc (Nat.le_refl _) (Obj.cells #[.int .i64 P, .slice A1 n1 c1, .slice A2 n2 c2, .slice A3 n3 c3, .slice A4 n4 c4, .slice A5 n5 c5, .slice A6 n6 c6] 26)).alloc (by simp) (Obj.cells #[.int .i64 0, .int .i64 0] 38))
  have hch := ref_any P A1 A2 A3 A4 A5 A6 n1 c1 n2 c2 n3 c3 n4 c4 n5 c5 n6 c6 N ((w.alloc (.cells #[.int .i64 P, .slice A1 n1 c1, .slice A2 n2 c2, .slice A3 n3 c3, .slice A4 n4 c4, .slice A5 n5 c5, .slice A6 n6 c6] 26)).alloc (Obj.cells #[.int .i64 0, .int .i64 0] 38)) (h.up hb) ⟨cell_up hb hfi.1, cell_up hb hfi.2⟩
  have hf2 := hfi
  unfold GivesFault at hch
  rw [hj, judge_fine hj] at hch
  have hpn : N.places = P := h.hp
  have okP : okN P := hpn ▸ hok.p
  have hx0 : ((w.alloc (.cells #[.int .i64 P, .slice A1 n1 c1, .slice A2 n2 c2, .slice A3 n3 c3, .slice A4 n4 c4, .slice A5 n5 c5, .slice A6 n6 c6] 26)).alloc (Obj.cells #[.int .i64 0, .int .i64 0] 38)).heap[w.heap.size]? = some (.cells #[.int .i64 P, .slice A1 n1 c1, .slice A2 n2 c2, .slice A3 n3 c3, .slice A4 n4 c4, .slice A5 n5 c5, .slice A6 n6 c6] 26 (0, 0)) := (Below.heap_alloc _ _ _ (by simp)).trans (heap_alloc_new _ _)
  have hx1 : ((w.alloc (.cells #[.int .i64 P, .slice A1 n1 c1, .slice A2 n2 c2, .slice A3 n3 c3, .slice A4 n4 c4, .slice A5 n5 c5, .slice A6 n6 c6] 26)).alloc (Obj.cells #[.int .i64 0, .int .i64 0] 38)).heap[w.heap.size + 1]? = some (.cells #[.int .i64 0, .int .i64 0] 38 (0, 0)) := by
    have h := heap_alloc_new (w.alloc (.cells #[.int .i64 P, .slice A1 n1 c1, .slice A2 n2 c2, .slice A3 n3 c3, .slice A4 n4 c4, .slice A5 n5 c5, .slice A6 n6 c6] 26)) (Obj.cells #[.int .i64 0, .int .i64 0] 38)
    simpa using h
  obtain ⟨pv, hpv⟩ : ∃ pv, pv = putV P := ⟨_, rfl⟩
  obtain ⟨b1, hb1'⟩ : ∃ b, b = [67, 76, 80, 49] ++ pv := ⟨_, rfl⟩
  have HCT : Hid ((⟨#[67, 76, 80, 49]⟩ : ByteArray) ++ ⟨pv.toArray⟩ = ⟨b1.toArray⟩) := Lib.hid (by rw [hb1']; exact refPut_data [67, 76, 80, 49] pv)
  have HPV := Lib.hid hpv
  have BB0 := Lib.hid hb1'
  have HX0 := Lib.hid hx0
  have HX1 := Lib.hid hx1
  have HCH := Lib.hid hch
  have HF := Lib.hid hf2
  have HB := Lib.hid hb
  have H := Lib.hid h
  have HO := Lib.hid hok
  have HP := Lib.hid okP
  have HPN := Lib.hid hpn
  have LP : Hid (pv.length ≤ 10) := Lib.hid (by rw [hpv]; exact putV_len okP)
  have L1' : Hid (b1.length ≤ 14) := Lib.hid (by have := LP.out; rw [hb1']; simp; omega)
  clear hb hch h hfi hf2 hj hok okP hpn hx0 hx1 hpv hb1'
  go_enter Tryd.func16, Tryd.ntmps16
  go_wp2_with (go_at_call 15; refine HCH.out.mono ?_; rintro r w1 ⟨rfl, hb1⟩; have x0 := cell_up (below_up HB.out hb1) HF.out.1; have x1 := cell_up (below_up HB.out hb1) HF.out.2; have x2 := Lib.cell?_alloc_marked (.cells #[.int .i64 0, .int .i64 (-1)] 38) x0; have x3 := Lib.cell?_alloc_marked (.cells #[.int .i64 0, .int .i64 (-1)] 38) x1; have k0 := Lib.cell?_alloc_marked (.cells #[.pointer none, .slice none 0 0] 84) (Lib.cell?_alloc_marked (.cells #[.int .i64 0, .int .i64 (-1)] 38) (ncells_of_box ((hb1.block _ (lt_of_block HX0.out)).trans HX0.out)).r0))
  have hQ0 : QSt w ((w1.alloc (.cells #[.int .i64 0, .int .i64 (-1)] 38)).alloc (.cells #[.pointer none, .slice none 0 0] 84)) (w1.heap.size + 1) #[.int .i64 P, .slice A1 n1 c1, .slice A2 n2 c2, .slice A3 n3 c3, .slice A4 n4 c4, .slice A5 n5 c5, .slice A6 n6 c6] [] := by
    have a0 := (hb1.block _ (lt_of_block HX0.out)).trans HX0.out
    have a1 := (hb1.block _ (lt_of_block HX1.out)).trans HX1.out
    have b2 := (below_up HB.out hb1).alloc (below_up HB.out hb1).size (.cells #[.int .i64 0, .int .i64 (-1)] 38)
    have b3 := b2.alloc b2.size (.cells #[.pointer none, .slice none 0 0] 84)
    have f := BufAt.fresh (w1.alloc (.cells #[.int .i64 0, .int .i64 (-1)] 38)) w.heap.size b2.size
    have u1 := (Below.refl w1.heap.size w1).alloc (Nat.le_refl _) (.cells #[.int .i64 0, .int .i64 (-1)] 38)
    have u2 := u1.alloc u1.size (.cells #[.pointer none, .slice none 0 0] 84)
    exact ⟨(u2.block _ (lt_of_block a0)).trans a0, (u2.block _ (lt_of_block a1)).trans a1, by simpa using f, b3, by have := lt_of_block a1; omega⟩
  obtain ⟨Ws, hWs⟩ : ∃ W, W = (w1.alloc (.cells #[.int .i64 0, .int .i64 (-1)] 38)).alloc (.cells #[.pointer none, .slice none 0 0] 84) := ⟨_, rfl⟩
  obtain ⟨bb, hbb⟩ : ∃ bb, bb = w1.heap.size + 1 := ⟨_, rfl⟩
  rw [← hWs, ← hbb] at hQ0
  rw [← hWs, ← hbb]
  have Q0 := Lib.hid hQ0
  clear hQ0 hWs hbb hb1 x0 x1 x2 x3 k0 HCH HX0 HX1 HB
  have P1 := refPut_any P HP.out Ws
  rw [← HPV.out] at P1
  have HP1 := Lib.hid P1
  clear P1
  go_wp2_with (go_at_call 47; (with_reducible refine HP1.out.mono ?_); rintro r w3 ⟨rfl, hb3⟩; have ct := HCT.out; have lp := LP.out; have lp2 := L1'.out)
  have Q3 := Lib.hid (Q0.out.up hb3)
  clear ct lp lp2 hb3 HP1 Q0
  have F3 := Lib.hid (write_buf w.heap.size bb [] b1 w3 Q3.out.buf Q3.out.below.size (by simp) (Nat.le_trans L1'.out (by decide)))
  go_wp2_with (go_at_call 46; (with_reducible refine F3.out.mono ?_); rintro r w4 ⟨rfl, q1, q2, q3⟩; have S4 := Lib.hid (Q3.out.next (bs' := b1) (by simpa using q1) q2 q3); have k4 := S4.out.cells.r1)
  clear q1 q2 q3 F3 Q3
  have BB1 : Hid (b1 = [67, 76, 80, 49] ++ putV P) := Lib.hid (by rw [BB0.out, HPV.out])
  have L1 : Hid (b1.length ≤ 100000) := Lib.hid (Nat.le_trans L1'.out (by decide))
  obtain ⟨hp0, i1, i2, i3, i4, i5, i6, p0, m1, m2, m3, m4, m5, m6, k20⟩ := H.out
  obtain ⟨b2, hbb⟩ : ∃ b, b = b1 ++ listV N.first := ⟨_, rfl⟩
  have BB2 := Lib.hid hbb
  have L2 : Hid (b2.length ≤ 3024) := Lib.hid (by have h1 := listV_len (m := 300) i1.1 HO.out.first m1 (by omega); have h2 := L1'.out; rw [BB2.out, List.length_append]; omega)
  clear hbb
  obtain ⟨b3, hbb⟩ : ∃ b, b = b2 ++ listV N.ins := ⟨_, rfl⟩
  have BB3 := Lib.hid hbb
  have L3 : Hid (b3.length ≤ 3334) := Lib.hid (by have h1 := listV_len (m := 30) i2.1 HO.out.ins m2 (by omega); have h2 := L2.out; rw [BB3.out, List.length_append]; omega)
  clear hbb
  obtain ⟨b4, hbb⟩ : ∃ b, b = b3 ++ listV N.outs := ⟨_, rfl⟩
  have BB4 := Lib.hid hbb
  have L4 : Hid (b4.length ≤ 3644) := Lib.hid (by have h1 := listV_len (m := 30) i3.1 HO.out.outs m3 (by omega); have h2 := L3.out; rw [BB4.out, List.length_append]; omega)
  clear hbb
  obtain ⟨b5, hbb⟩ : ∃ b, b = b4 ++ listV N.keeps := ⟨_, rfl⟩
  have BB5 := Lib.hid hbb
  have L5 : Hid (b5.length ≤ 4254) := Lib.hid (by have h1 := listV_len (m := 60) i4.1 HO.out.keeps m4 (by omega); have h2 := L4.out; rw [BB5.out, List.length_append]; omega)
  clear hbb
  obtain ⟨b6, hbb⟩ : ∃ b, b = b5 ++ listV N.nums := ⟨_, rfl⟩
  have BB6 := Lib.hid hbb
  have L6 : Hid (b6.length ≤ 4864) := Lib.hid (by have h1 := listV_len (m := 60) i5.1 HO.out.nums m5 (by omega); have h2 := L5.out; rw [BB6.out, List.length_append]; omega)
  clear hbb
  clear i1 i2 i3 i4 i5 i6 k20 hp0
  have M6 : Hid (b6.length ≤ 4864) := L6
  have L2 : Hid (b2.length ≤ 100000) := Lib.hid (Nat.le_trans L2.out (by decide))
  have L3 : Hid (b3.length ≤ 100000) := Lib.hid (Nat.le_trans L3.out (by decide))
  have L4 : Hid (b4.length ≤ 100000) := Lib.hid (Nat.le_trans L4.out (by decide))
  have L5 : Hid (b5.length ≤ 100000) := Lib.hid (Nat.le_trans L5.out (by decide))
  have L6 : Hid (b6.length ≤ 100000) := Lib.hid (Nat.le_trans L6.out (by decide))
  have F5 := Lib.hid (refBig_any w.heap.size bb A1 n1 c1 N.first b1 w4 S4.out.buf S4.out.below.size (fun w' x y => H.out.i1.up (S4.out.below.trans x)) HO.out.first (by omega) L1.out)
  go_wp2_with (go_at_call 48; (with_reducible refine F5.out.mono ?_); rintro r w5 ⟨rfl, q1, q2, q3⟩; have S5 := Lib.hid (S4.out.next q1 q2 q3); have k5 := S5.out.cells.r2)
  clear F5 q1 q2 q3 S4 k4
  rw [← BB2.out] at S5
  have F6 := Lib.hid (refSmall_any w.heap.size bb A2 n2 c2 N.ins b2 w5 S5.out.buf S5.out.below.size (fun w' x y => H.out.i2.up (S5.out.below.trans x)) HO.out.ins (by omega) L2.out)
  go_wp2_with (go_at_call 49; (with_reducible refine F6.out.mono ?_); rintro r w6 ⟨rfl, q1, q2, q3⟩; have S6 := Lib.hid (S5.out.next q1 q2 q3); have k6 := S6.out.cells.r3)
  clear F6 q1 q2 q3 S5 k5
  rw [← BB3.out] at S6
  have F7 := Lib.hid (refSmall_any w.heap.size bb A3 n3 c3 N.outs b3 w6 S6.out.buf S6.out.below.size (fun w' x y => H.out.i3.up (S6.out.below.trans x)) HO.out.outs (by omega) L3.out)
  go_wp2_with (go_at_call 49; (with_reducible refine F7.out.mono ?_); rintro r w7 ⟨rfl, q1, q2, q3⟩; have S7 := Lib.hid (S6.out.next q1 q2 q3); have k7 := S7.out.cells.r4)
  clear F7 q1 q2 q3 S6 k6
  rw [← BB4.out] at S7
  have F8 := Lib.hid (refSmall_any w.heap.size bb A4 n4 c4 N.keeps b4 w7 S7.out.buf S7.out.below.size (fun w' x y => H.out.i4.up (S7.out.below.trans x)) HO.out.keeps (by omega) L4.out)
  go_wp2_with (go_at_call 49; (with_reducible refine F8.out.mono ?_); rintro r w8 ⟨rfl, q1, q2, q3⟩; have S8 := Lib.hid (S7.out.next q1 q2 q3); have k8 := S8.out.cells.r5)
  clear F8 q1 q2 q3 S7 k7
  rw [← BB5.out] at S8
  have F9 := Lib.hid (refBig_any w.heap.size bb A5 n5 c5 N.nums b5 w8 S8.out.buf S8.out.below.size (fun w' x y => H.out.i5.up (S8.out.below.trans x)) HO.out.nums (by omega) L5.out)
  go_wp2_with (go_at_call 48; (with_reducible refine F9.out.mono ?_); rintro r w9 ⟨rfl, q1, q2, q3⟩; have S9 := Lib.hid (S8.out.next q1 q2 q3); have k9 := S9.out.cells.r6)
  clear F9 q1 q2 q3 S8 k8
  rw [← BB6.out] at S9
  obtain ⟨b7, hbb⟩ : ∃ b, b = b6 ++ putV (n6 : Int) := ⟨_, rfl⟩
  have BB7 := Lib.hid hbb
  have LN : Hid ((putV (n6 : Int)).length ≤ 10) := Lib.hid (putV_len (okN_nat (by omega)))
  clear hbb
  have HP9 := Lib.hid (refPut_any (n6 : Int) (okN_nat (by omega)) w9)
  go_wp2_with (go_at_call 47; (with_reducible refine HP9.out.mono ?_); rintro r w10 ⟨rfl, hb10⟩)
  have Q10 := Lib.hid (S9.out.up hb10)
  clear hb10 HP9 S9 k9
  have F10 := Lib.hid (write_buf w.heap.size bb b6 (putV (n6 : Int)) w10 Q10.out.buf Q10.out.below.size (Nat.le_trans L6.out (by decide)) (Nat.le_trans LN.out (by decide)))
  go_wp2_with (go_at_call 46; (with_reducible refine F10.out.mono ?_); rintro r w11 ⟨rfl, q1, q2, q3⟩; have S11 := Lib.hid (Q10.out.next q1 q2 q3); have k11 := S11.out.cells.r6)
  rw [← BB7.out] at S11
  clear q1 q2 q3 F10 Q10 k11
  go_loopw [53] (fun i wr => ∃ k : Nat, k ≤ n6 ∧ i = .int .i64 k ∧ QSt w wr bb #[.int .i64 P, .slice A1 n1 c1, .slice A2 n2 c2, .slice A3 n3 c3, .slice A4 n4 c4, .slice A5 n5 c5, .slice A6 n6 c6] (b7 ++ (N.code.take k).flatMap stepB)) (fun i _ => n6 - (intOf i).toNat)
  case atStart => exact ⟨0, Nat.zero_le _, rfl, by simpa using S11.out⟩
  case round =>
    obtain ⟨k, hk, rfl, hst⟩ := hrel
    have SW := Lib.hid hst
    clear hst
    by_cases hlt : k < n6
    · obtain ⟨b, o, rfl, hc⟩ := (H.out.i6.up SW.out.below).2 (by omega)
      obtain ⟨s, hs0, hs1, hs2, hs3, hs4, hs5⟩ := hc k hlt
      have OS := Lib.hid (HO.out.code s (List.mem_of_getElem? hs0))
      have HT := Lib.hid (take_steps hs0)
      have OK1 : Hid (okN s.c) := Lib.hid OS.out.1
      have OK2 : Hid (okN s.d) := Lib.hid OS.out.2.1
      have OK3 : Hid (okN s.a) := Lib.hid OS.out.2.2.1
      have LA : Hid ((b7 ++ (N.code.take k).flatMap stepB).length ≤ 100000) := Lib.hid (by
        have h1 := steps_len (cs := N.code.take k) (fun x hx => HO.out.code x (List.mem_of_mem_take hx))
        have h2 : (N.code.take k).length ≤ k := List.length_take_le _ _
        have h3 := LN.out
        have h4 := M6.out
        rw [List.length_append, BB7.out, List.length_append]
        omega)
      obtain ⟨acc, hacc⟩ : ∃ acc, acc = b7 ++ (N.code.take k).flatMap stepB := ⟨_, rfl⟩
      rw [← hacc] at SW LA
      have AC := Lib.hid hacc
      clear hc hs0 hacc
      obtain ⟨pc, hpc⟩ : ∃ pc, pc = putV s.c := ⟨_, rfl⟩
      obtain ⟨pd, hpd⟩ : ∃ pd, pd = putV s.d := ⟨_, rfl⟩
      obtain ⟨pcd, hpcd⟩ : ∃ pcd, pcd = pc ++ pd := ⟨_, rfl⟩
      have HCD : Hid ((⟨pc.toArray⟩ : ByteArray) ++ ⟨pd.toArray⟩ = ⟨pcd.toArray⟩) := Lib.hid (by rw [hpcd]; exact refPut_data pc pd)
      have LC : Hid (pc.length ≤ 10) := Lib.hid (by rw [hpc]; exact putV_len OK1.out)
      have LD : Hid (pd.length ≤ 10) := Lib.hid (by rw [hpd]; exact putV_len OK2.out)
      have LCD : Hid (pcd.length ≤ 20) := Lib.hid (by have h1 := LC.out; have h2 := LD.out; rw [hpcd, List.length_append]; omega)
      have FC : Hid (∀ W, Calls Tryd.prog 47 #[.int .i64 s.c] W fun r w' => r = .returned (.string ⟨pc.toArray⟩) ∧ Below W.heap.size W w') := Lib.hid (by rw [hpc]; exact fun W => refPut_any s.c OK1.out W)
      have FD : Hid (∀ W, Calls Tryd.prog 47 #[.int .i64 s.d] W fun r w' => r = .returned (.string ⟨pd.toArray⟩) ∧ Below W.heap.size W w') := Lib.hid (by rw [hpd]; exact fun W => refPut_any s.d OK2.out W)
      have HPC := Lib.hid hpc
      have HPD := Lib.hid hpd
      have HPCD := Lib.hid hpcd
      clear hpc hpd hpcd
      go_upto_region 17 with fail
      have RW := Lib.hid (PSt.start s SW.out)
      obtain ⟨g, hg⟩ : ∃ g, g = wr.heap.size := ⟨_, rfl⟩
      obtain ⟨W, hW⟩ : ∃ W, W = wr.alloc (.cells #[.int .i64 s.c, .int .i64 s.d, .int .i64 s.a, .int .i64 s.b, .int .i64 s.e] 31) := ⟨_, rfl⟩
      rw [← hg, ← hW]
      rw [← hg, ← hW] at RW
      clear hg hW hs1 hs2 hs3 hs4 hs5
      go_cut [53] from 53 to 83 (fun i wx => i = .int .i64 k ∧ PSt w wx bb #[.int .i64 P, .slice A1 n1 c1, .slice A2 n2 c2, .slice A3 n3 c3, .slice A4 n4 c4, .slice A5 n5 c5, .slice (some ⟨b, o, none⟩) n6 c6] (acc ++ pcd) g s)
      case first =>
        obtain ⟨s0, s1, _, _, _⟩ := step_cells RW.out.sb
        have lc := LC.out
        have ld := LD.out
        have lcd := LCD.out
        have ct := HCD.out
        go_region_with (first | (go_at_call 47; ((with_reducible refine (FC.out _).mono ?_); rintro r wc1 ⟨rfl, hbc⟩; (try have s1' := cell_up hbc s1); (try have s0' := cell_up hbc s0); have HBC := Lib.hid hbc; clear hbc)) | (go_at_call 47; ((with_reducible refine (FD.out _).mono ?_); rintro r wd1 ⟨rfl, hbd⟩; (try have s1'' := cell_up hbd s1); (try have s0'' := cell_up hbd s0); have HBD := Lib.hid hbd; clear hbd)) | (go_at_call 46; ((with_reducible refine (write_buf w.heap.size bb acc pcd _ ?_ ?_ ?_ ?_).mono ?_); (first | exact (RW.out.drew.st.buf.up HBC.out).up HBD.out | exact (RW.out.drew.st.buf.up HBD.out).up HBC.out); (first | exact Nat.le_trans (Nat.le_trans RW.out.drew.st.below.size HBC.out.size) HBD.out.size | exact Nat.le_trans (Nat.le_trans RW.out.drew.st.below.size HBD.out.size) HBC.out.size); exact Nat.le_trans LA.out (by decide); exact Nat.le_trans LCD.out (by decide); rintro r w4 ⟨rfl, q1, q2, q3⟩)))
        all_goals
          go_wp2_with fail
          go_meet
          case rel => exact ⟨rfl, by first | exact ((RW.out.drew.up HBC.out).up HBD.out).next q1 q2 q3 | exact ((RW.out.drew.up HBD.out).up HBC.out).next q1 q2 q3⟩
      case rest =>
        obtain ⟨rfl, hR⟩ := hcut
        have RC := Lib.hid hR
        obtain ⟨s0, s1, s2, s3, s4⟩ := step_cells hR.sb
        have L5' : (acc ++ pcd).length ≤ 100020 := by
          have h1 := LCD.out
          have h3 := LA.out
          simp only [List.length_append]
          omega
        have FA := Lib.hid (refPut_any s.a OK3.out wc)
        have LAA := Lib.hid (putV_len OK3.out)
        obtain ⟨acc3, ha3⟩ : ∃ a, a = acc ++ pcd ++ (if s.c = 1 then putV s.a else []) := ⟨_, rfl⟩
        have L3' : acc3.length ≤ 100030 := by
          rw [ha3, List.length_append]
          have h1 := LAA.out
          split
          · omega
          · rw [List.length_nil]; omega
        have AA3 := Lib.hid ha3
        have HL5 := Lib.hid L5'
        clear hR RW SW L5' ha3
        go_upto_if 67 with fail
        go_cut [53] from 53 to 83 (fun i wx => i = .int .i64 k ∧ PSt w wx bb #[.int .i64 P, .slice A1 n1 c1, .slice A2 n2 c2, .slice A3 n3 c3, .slice A4 n4 c4, .slice A5 n5 c5, .slice (some ⟨b, o, none⟩) n6 c6] acc3 g s)
        case first =>
          by_cases hn1 : s.c = 1
          · have hb1 : (s.c == 1) = true := by simpa using hn1
            have N1 := Lib.hid hn1
            clear hn1
            have e1 : Hid (acc ++ pcd ++ putV s.a = acc3) := Lib.hid (by rw [AA3.out, if_pos N1.out])
            go_wp2_with (go_at_call 47; (with_reducible refine FA.out.mono ?_); rintro r w5 ⟨rfl, hb5⟩)
            have R5 := Lib.hid (RC.out.up hb5)
            have F5 := Lib.hid (write_buf w.heap.size bb (acc ++ pcd) (putV s.a) w5 R5.out.st.buf R5.out.st.below.size (Nat.le_trans HL5.out (by decide)) (Nat.le_trans LAA.out (by decide)))
            rw [e1.out] at F5
            go_wp2_with (go_at_call 46; (with_reducible refine F5.out.mono ?_); rintro r w6 ⟨rfl, q1, q2, q3⟩)
            go_meet
            case rel => exact ⟨rfl, R5.out.next q1 q2 q3⟩
          · have hb1 : (s.c == 1) = false := by simpa using hn1
            have e1 : acc ++ pcd = acc3 := by rw [AA3.out, if_neg hn1, List.append_nil]
            rw [e1] at RC
            clear e1 hn1
            go_wp2_with fail
            go_meet
            case rel => exact ⟨rfl, RC.out⟩
        case rest =>
          obtain ⟨rfl, hR⟩ := hcut
          have R1 := Lib.hid hR
          obtain ⟨d0, d1, d2, d3, d4⟩ := step_cells hR.sb
          clear hR FA s0 s1 s2 s3 s4 RC
          go_wp2_with (go_at_call 12; ((with_reducible refine (refAsks_anyR s _).mono ?_); rintro r w6 ⟨AA, ca, rfl, hca, hia, hra, hba⟩))
          have har := arity_le s.c
          have AX := Lib.hid (asks_ok OS.out)
          have R2 := Lib.hid (R1.out.up hba)
          have W2 : Hid (RowAt w6 AA (arityV s.c) (asksV s)) := Lib.hid ⟨hia, hra⟩
          obtain ⟨ar, har0⟩ : ∃ ar, ar = arityV s.c := ⟨_, rfl⟩
          obtain ⟨as1, has0⟩ : ∃ as1, as1 = asksV s := ⟨_, rfl⟩
          have hal : as1.length = ar := by rw [has0, har0]; exact asks_len s
          have HAS := Lib.hid has0
          rw [← has0] at W2 AX
          rw [← har0] at W2 har
          rw [← har0] at hca hia hra ⊢
          clear hca hia hra hba R1 d0 d1 d2 d3 d4 has0 har0
          have HAL := Lib.hid hal
          clear hal
          go_loopw [75] (fun j wr => ∃ m : Nat, m ≤ ar ∧ j = .int .i64 m ∧ PSt w wr bb #[.int .i64 P, .slice A1 n1 c1, .slice A2 n2 c2, .slice A3 n3 c3, .slice A4 n4 c4, .slice A5 n5 c5, .slice (some ⟨b, o, none⟩) n6 c6] (acc3 ++ numsV (as1.take m)) g s ∧ RowAt wr AA ar as1) (fun j _ => ar - (intOf j).toNat)
          case atStart => exact ⟨0, Nat.zero_le _, rfl, by simpa [numsV] using R2.out, W2.out⟩
          case round =>
            obtain ⟨m, hm, rfl, hrs, hrow⟩ := hrel
            have RS := Lib.hid hrs
            have RO := Lib.hid hrow
            clear hrs hrow
            by_cases hmlt : m < ar
            · obtain ⟨b2', o2', rfl, hc⟩ := RO.out.1.2 (by omega)
              have hcm := hc m hmlt
              have ht := take_numsV HAL.out m hmlt
              have hx := getD_ok AX.out m
              have hl := take_numsV_len AX.out m
              obtain ⟨acc4, ha4⟩ : ∃ a, a = acc3 ++ numsV (as1.take m) := ⟨_, rfl⟩
              have hl4 : acc4.length ≤ 100100 := by rw [ha4, List.length_append]; omega
              obtain ⟨x, hx0⟩ : ∃ x, x = as1.getD m 0 := ⟨_, rfl⟩
              rw [← hx0] at hcm ht hx
              rw [← ha4] at RS
              have HT2 : Hid (acc3 ++ numsV (as1.take (m + 1)) = acc4 ++ putV x) := Lib.hid (by rw [ht, ha4, List.append_assoc])
              have F7 := Lib.hid (refPut_any x hx wr)
              have LX := Lib.hid (putV_len hx)
              clear hc ht hx hl ha4 hx0
              go_wp2_with (go_at_call 47; (with_reducible refine F7.out.mono ?_); rintro r w8 ⟨rfl, hb8⟩)
              have R3 := Lib.hid (RS.out.up hb8)
              have RO3 := Lib.hid (RO.out.up hb8)
              have F8 := Lib.hid (write_buf w.heap.size bb acc4 (putV x) w8 R3.out.st.buf R3.out.st.below.size (by omega) (Nat.le_trans LX.out (by decide)))
              clear hb8 F7 RS RO
              go_wp2_with (go_at_call 46; (with_reducible refine F8.out.mono ?_); rintro r w9 ⟨rfl, q1, q2, q3⟩)
              have R4 := Lib.hid (R3.out.next q1 q2 q3)
              have RO4 := Lib.hid (RO3.out.next R3.out.st q3)
              clear q1 q2 q3 F8 R3 RO3
              go_roundw
              case rel => exact ⟨m + 1, by omega, by go_num, by rw [HT2.out]; exact R4.out, RO4.out⟩
              case measure => simp [intOf]; omega
            · go_wp2_with fail
              go_roundw
              case rel =>
                refine ⟨k + 1, by omega, by go_num, ?_⟩
                have e2 : as1.take m = as1 := List.take_of_length_le (by rw [HAL.out]; omega)
                have h3 := RS.out.st
                rw [e2] at h3
                rw [HT.out, ← List.append_assoc, ← AC.out]
                unfold stepB
                rw [← HAS.out, ← List.append_assoc, ← List.append_assoc, ← HPC.out, ← HPD.out, ← HPCD.out, ← AA3.out]
                exact h3
              case measure => simp [intOf]; omega
    · obtain rfl : k = n6 := by omega
      have hst := SW.out
      rw [List.take_of_length_le (by rw [H.out.i6.1]; exact Nat.le_refl _)] at hst
      obtain ⟨im, him⟩ : ∃ im, im = b7 ++ N.code.flatMap stepB := ⟨_, rfl⟩
      have IM : Hid (im = imageV N) := Lib.hid (by rw [him, BB7.out, BB6.out, BB5.out, BB4.out, BB3.out, BB2.out, BB1.out]; unfold imageV; rw [HPN.out, H.out.i6.1])
      rw [← him] at hst
      have ST := Lib.hid hst
      have FX : Hid (FineAt wr) := Lib.hid ⟨cell_up hst.below HF.out.1, cell_up hst.below HF.out.2⟩
      clear him hst
      obtain ⟨v0, v1, z0, z1, gl⟩ := ST.out.rcell
      have f0 := FX.out.1
      have f1 := FX.out.2
      have SD := Lib.hid (show QSt w wr.drew bb _ im from ⟨ST.out.box, ST.out.res, ST.out.buf, ST.out.below.drew, ST.out.lt⟩)
      go_wp2_with fail
      go_region_with (go_at_call 50; ((with_reducible refine (builderString_k w.heap.size bb im _ ?_ ?_).mono ?_); exact SD.out.buf; exact SD.out.below.size; rintro r w9 ⟨rfl, q0, q2, q3⟩; have QX := Lib.hid (SD.out.next (bs' := im) q0 q2 q3); obtain ⟨u0, u1, y0, y1, gl2⟩ := QX.out.rcell; have e0 := cell_up QX.out.below HF.out.1; have e1 := cell_up QX.out.below HF.out.2; clear q0 q2 q3))
      all_goals
        go_wp2
        exact bodyPost_ret (v := .tuple #[.string ⟨im.toArray⟩, .agg #[.int .i64 0, .int .i64 (-1)]]) (by simp [results, Tryd.results16, go_sem, u0, u1]) rfl ⟨by rw [IM.out], (QX.out.below.setCell (Nat.le_succ _) _).setCell (Nat.le_succ _) _⟩
end Go.Proofs.YtgglbjniclkkpaaDoor

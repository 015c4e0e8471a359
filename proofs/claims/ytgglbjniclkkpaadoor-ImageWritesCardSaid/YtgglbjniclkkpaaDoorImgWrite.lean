/-
  image.Write: code as bytes.
-/
import Derived.Test.YtgglbjniclkkpaaDoorImgList
import Derived.Test.YtgglbjniclkkpaaDoorAsksRow
import Derived.Test.YtgglbjniclkkpaaDoorCheck
import Derived.Deep.CutBlock
import Derived.Lib.SlBytesConst
import Derived.Outline
import Derived.Deep.RegionWith
import Derived.Deep.CutRange
namespace Go.Proofs.YtgglbjniclkkpaaDoor
open Go.RowKit
set_option linter.unusedVariables false

/-- A call that hands back no text, and the error. -/
def GivesNoText (w : World) (J1 J2 : Int) (r : Ending) (w' : World) : Prop := ∃ v, r = .returned (.tuple #[.string ⟨#[]⟩, v]) ∧ ErrAt w' v J1 J2 ∧ Below w.heap.size w w'
set_option maxRecDepth 100000 in
set_option maxHeartbeats 4000000 in
theorem write_bad (P : Int) (A1 A2 A3 A4 A5 A6 : Option Addr) (n1 c1 n2 c2 n3 c3 n4 c4 n5 c5 n6 c6 : Nat) (N : NetP) (w : World) (h : NetAt w P A1 A2 A3 A4 A5 A6 n1 c1 n2 c2 n3 c3 n4 c4 n5 c5 n6 c6 N) (hg : HandleAt w) (hj : (judgeV N).1 ≠ 0) :
    Calls Tryd.prog 17 #[.agg #[.int .i64 P, .slice A1 n1 c1, .slice A2 n2 c2, .slice A3 n3 c3, .slice A4 n4 c4, .slice A5 n5 c5, .slice A6 n6 c6]] w (GivesNoText w (judgeV N).1 (judgeV N).2) := by
  have hb := (Below.refl w.heap.size w).alloc (Nat.le_refl _) (Obj.cells #[.int .i64 P, .slice A1 n1 c1, .slice A2 n2 c2, .slice A3 n3 c3, .slice A4 n4 c4, .slice A5 n5 c5, .slice A6 n6 c6] 26)
  have hch := check_any P A1 A2 A3 A4 A5 A6 n1 c1 n2 c2 n3 c3 n4 c4 n5 c5 n6 c6 N (w.alloc (.cells #[.int .i64 P, .slice A1 n1 c1, .slice A2 n2 c2, .slice A3 n3 c3, .slice A4 n4 c4, .slice A5 n5 c5, .slice A6 n6 c6] 26)) (h.up hb) (hg.up hb)
  unfold GivesErr at hch
  obtain ⟨J1, hJ1⟩ : ∃ j, j = (judgeV N).1 := ⟨_, rfl⟩
  obtain ⟨J2, hJ2⟩ : ∃ j, j = (judgeV N).2 := ⟨_, rfl⟩
  rw [← hJ1, ← hJ2] at hch
  rw [← hJ1, ← hJ2]
  rw [← hJ1] at hj
  have HCH := Lib.hid hch
  have HB := Lib.hid hb
  have HJ := Lib.hid hj
  clear hb hch h hg hJ1 hJ2 hj
  go_enter Tryd.func17, Tryd.ntmps17
  go_wp2_with (go_at_call 14; refine HCH.out.mono ?_; rintro r w1 ⟨v, rfl, hev, hb1⟩; obtain ⟨t, x, rfl⟩ := hev.some HJ.out)
  go_ret2
  exact ⟨_, rfl, hev, below_up HB.out hb1⟩

/-- What holds while image.Write runs: the code's own variable, the bytes so far in the captured one. -/
structure WSt (w wr : World) (p : Nat) (cs : Array Value) (bs : List UInt8) : Prop where
  box : wr.heap[w.heap.size]? = some (.cells cs 26 (0, 0))
  cap : CapAt wr w.heap.size p bs
  below : Below w.heap.size w wr
  lt : w.heap.size < p
theorem WSt.next {w W w' : World} {p : Nat} {cs : Array Value} {bs bs' : List UInt8} (h : WSt w W p cs bs) (hc : CapAt w' w.heap.size p bs') (hb : Below w.heap.size W w') (hk : Lib.OthersKept 5 (some p) W w') : WSt w w' p cs bs' :=
  ⟨hk _ _ h.box (fun e => by have := h.lt; simp at e; omega) (fun c fz e => by cases e), hc, h.below.trans hb, h.lt⟩
theorem ownsRow.up {w W : World} {B n : Nat} {v : Value} {xs : List Value} {e : TypeId} (h : w.ownsRow B e 1 v n xs) (hb : Below w.heap.size w W) : W.ownsRow B e 1 v n xs := by
  refine ⟨h.1, ?_⟩
  rcases h.2 with hn | ⟨g, cap, cur, rfl, hg, hgg, rest⟩
  · exact .inl hn
  · exact .inr ⟨g, cap, cur, rfl, hg, (hb.block g (lt_of_block hgg)).trans hgg, rest⟩
theorem CapAt.up {w W : World} {B p : Nat} {bs : List UInt8} (h : CapAt w B p bs) (hb : Below w.heap.size w W) : CapAt W B p bs := by
  obtain ⟨sv, h0, h1⟩ := h
  exact ⟨sv, (hb.block p (lt_of_block h0)).trans h0, ownsRow.up h1 hb⟩
theorem WSt.up {w W w' : World} {p : Nat} {cs : Array Value} {bs : List UInt8} (h : WSt w W p cs bs) (hb : Below W.heap.size W w') : WSt w w' p cs bs :=
  ⟨(hb.block _ (lt_of_block h.box)).trans h.box, h.cap.up hb, below_up h.below hb, h.lt⟩
theorem WSt.cells {w W : World} {p : Nat} {bs : List UInt8} {P : Int} {A1 A2 A3 A4 A5 A6 : Option Addr} {n1 c1 n2 c2 n3 c3 n4 c4 n5 c5 n6 c6 : Nat} (h : WSt w W p #[.int .i64 P, .slice A1 n1 c1, .slice A2 n2 c2, .slice A3 n3 c3, .slice A4 n4 c4, .slice A5 n5 c5, .slice A6 n6 c6] bs) : NCells W w.heap.size P A1 A2 A3 A4 A5 A6 n1 c1 n2 c2 n3 c3 n4 c4 n5 c5 n6 c6 := by
  refine ⟨?_, ?_, ?_, ?_, ?_, ?_, ?_⟩ <;> simp [World.cell?, h.box]
/-- Another block's ints are kept. -/
theorem ints_kept {w w' : World} {p : Nat} {A : Option Addr} {n : Nat} {xs : List Int} {e : TypeId} (he : e ≠ 5) (h : IntsAt w A n xs) (hr : 0 < n → ∃ b C, A = some ⟨b, 0, none⟩ ∧ w.heap[b]? = some (.cells C e (0, 0))) (hp : 0 < n → ∀ b C, A = some ⟨b, 0, none⟩ → w.heap[b]? = some (.cells C e (0, 0)) → b ≠ p) (hk : Lib.OthersKept 5 (some p) w w') : IntsAt w' A n xs := by
  refine ⟨h.1, fun hn => ?_⟩
  obtain ⟨b, o, e1, hc⟩ := h.2 hn
  obtain ⟨b2, C, e2, hC⟩ := hr hn
  rw [e2] at e1
  cases e1
  refine ⟨b, 0, e2, fun j hj => ?_⟩
  have h2 : w'.heap[b]? = w.heap[b]? := (hk b _ hC (by simpa using hp hn b C e2 hC) (fun c fz e => by cases e; exact he rfl)).trans hC.symm
  exact (World.cell?_of_block h2).trans (hc j hj)
theorem WSt.ne {w W : World} {p b : Nat} {cs : Array Value} {bs : List UInt8} {e : TypeId} {C : Array Value} (h : WSt w W p cs bs) (he : e ≠ 82) (hC : W.heap[b]? = some (.cells C e (0, 0))) : b ≠ p := by
  rintro rfl
  obtain ⟨sv, h0, _⟩ := h.cap
  rw [h0] at hC
  cases hC
  exact he rfl
/-- The lengths stay small. -/
theorem listV_len {xs : List Int} {n m : Nat} (hl : xs.length = n) (h : ∀ x ∈ xs, okN x) (hn : n ≤ m) (hm : m ≤ 4000) : (listV xs).length ≤ 10 * m + 10 := by
  have h1 := numsV_len xs h
  have h2 := putV_len (okN_nat (n := xs.length) (by omega))
  unfold listV
  rw [List.length_append]
  omega
/-- A store into the captured variable. -/
theorem WSt.store {w W w' : World} {p : Nat} {cs : Array Value} {bs bs' : List UInt8} {A : Option Addr} {l c : Nat} {C : Value} (h : WSt w W p cs bs) (hp : W.heap[p]? = some (.cells #[C] 82 (0, 0))) (ho : w'.ownsRow w.heap.size 5 1 (.slice A l c) bs'.length (Lib.byteCells bs')) (q1 : Below w.heap.size W w') (q2 : Lib.OthersKept 5 none W w') : WSt w (w'.setCell ⟨p, 0, none⟩ (.slice A l c)) p cs bs' :=
  h.next (CapAt.put (cap_kept hp q2) ho) (q1.setCell (Nat.le_of_lt h.lt) _) ((OthersKept.some p q2).setCell ⟨p, 0, none⟩ rfl _)
/-- What holds in a round. -/
structure RSt (w wr : World) (p : Nat) (cs : Array Value) (bs : List UInt8) (g : Nat) (s : Stp) : Prop where
  st : WSt w wr p cs bs
  sb : wr.heap[g]? = some (.cells #[.int .i64 s.c, .int .i64 s.d, .int .i64 s.a, .int .i64 s.b, .int .i64 s.e] 31 (0, 0))
theorem step_cells {W : World} {g : Nat} {s : Stp} (h : W.heap[g]? = some (.cells #[.int .i64 s.c, .int .i64 s.d, .int .i64 s.a, .int .i64 s.b, .int .i64 s.e] 31 (0, 0))) :
    W.cell? ⟨g, 0, none⟩ = some (.int .i64 s.c) ∧ W.cell? ⟨g, 1, none⟩ = some (.int .i64 s.d) ∧ W.cell? ⟨g, 2, none⟩ = some (.int .i64 s.a) ∧ W.cell? ⟨g, 3, none⟩ = some (.int .i64 s.b) ∧ W.cell? ⟨g, 4, none⟩ = some (.int .i64 s.e) := by
  refine ⟨?_, ?_, ?_, ?_, ?_⟩ <;> simp [World.cell?, h]
theorem step_kept {W W' : World} {g : Nat} {s : Stp} (h : W.heap[g]? = some (.cells #[.int .i64 s.c, .int .i64 s.d, .int .i64 s.a, .int .i64 s.b, .int .i64 s.e] 31 (0, 0))) (hk : Lib.OthersKept 5 none W W') :
    W'.heap[g]? = some (.cells #[.int .i64 s.c, .int .i64 s.d, .int .i64 s.a, .int .i64 s.b, .int .i64 s.e] 31 (0, 0)) := hk _ _ h (by simp) (fun c fz e => by cases e)
theorem RSt.store {w W w' : World} {p g : Nat} {s : Stp} {cs : Array Value} {bs bs' : List UInt8} {A : Option Addr} {l c : Nat} {C : Value} (h : RSt w W p cs bs g s) (hp : W.heap[p]? = some (.cells #[C] 82 (0, 0))) (ho : w'.ownsRow w.heap.size 5 1 (.slice A l c) bs'.length (Lib.byteCells bs')) (q1 : Below w.heap.size W w') (q2 : Lib.OthersKept 5 none W w') : RSt w (w'.setCell ⟨p, 0, none⟩ (.slice A l c)) p cs bs' g s :=
  ⟨h.st.store hp ho q1 q2, by rw [Below.heap_setCell _ _ _ _ (h.st.ne (by decide) h.sb)]; exact step_kept h.sb q2⟩
theorem RSt.start {w wr : World} {p : Nat} {cs : Array Value} {bs : List UInt8} (s : Stp) (h : WSt w wr p cs bs) : RSt w (wr.alloc (.cells #[.int .i64 s.c, .int .i64 s.d, .int .i64 s.a, .int .i64 s.b, .int .i64 s.e] 31)) p cs bs wr.heap.size s :=
  ⟨h.up ((Below.refl _ _).alloc (Nat.le_refl _) _), heap_alloc_new _ _⟩
theorem RSt.up {w W w' : World} {p g : Nat} {s : Stp} {cs : Array Value} {bs : List UInt8} (h : RSt w W p cs bs g s) (hb : Below W.heap.size W w') : RSt w w' p cs bs g s :=
  ⟨h.st.up hb, (hb.block _ (lt_of_block h.sb)).trans h.sb⟩
theorem RSt.drew {w W : World} {p g : Nat} {s : Stp} {cs : Array Value} {bs : List UInt8} (h : RSt w W p cs bs g s) : RSt w W.drew p cs bs g s :=
  ⟨⟨h.st.box, h.st.cap, h.st.below.drew, h.st.lt⟩, h.sb⟩
/-- What is asked, in a row of ints. -/
def RowAt (w : World) (A : Option Addr) (n : Nat) (xs : List Int) : Prop := IntsAt w A n xs ∧ (0 < n → ∃ b C, A = some ⟨b, 0, none⟩ ∧ w.heap[b]? = some (.cells C 3 (0, 0)))
theorem RowAt.store {w W w' : World} {p g : Nat} {s : Stp} {cs : Array Value} {bs : List UInt8} {v : Value} {A : Option Addr} {n : Nat} {xs : List Int} (h : RowAt W A n xs) (hr : RSt w W p cs bs g s) (q2 : Lib.OthersKept 5 none W w') : RowAt (w'.setCell ⟨p, 0, none⟩ v) A n xs := by
  have hk := (OthersKept.some p q2).setCell ⟨p, 0, none⟩ rfl v
  have hp : ∀ b C, W.heap[b]? = some (.cells C 3 (0, 0)) → b ≠ p := fun b C hC => hr.st.ne (by decide) hC
  refine ⟨ints_kept (e := 3) (by decide) h.1 h.2 (fun _ b C _ hC => hp b C hC) hk, fun hn => ?_⟩
  obtain ⟨b, C, e, hC⟩ := h.2 hn
  exact ⟨b, C, e, hk b _ hC (by simpa using hp b C hC) (fun c fz e => by cases e)⟩
/-- The bytes as a text. -/
theorem own_string {w : World} {B l c : Nat} {A : Option Addr} {bs : List UInt8} (h : w.ownsRow B 5 1 (.slice A l c) bs.length (Lib.byteCells bs)) (h0 : 0 < bs.length) : (convert 82 9 (.slice A l c)).run Tryd.prog w = .ok (.string ⟨bs.toArray⟩) w := by
  rcases h.2 with ⟨_, hn⟩ | ⟨g, cap, cur, hv, hb, hgg, hle, hm, hs, ht⟩
  · omega
  · cases hv
    refine run_convert_bytes_back (P := Tryd.prog) w 82 9 5 ⟨g, 0, none⟩ c bs Tryd.underlying82 Tryd.underlying5 Tryd.underlying9 (fun j hj => ?_)
    have hadd : (⟨g, 0, none⟩ : Addr).add j = ⟨g, j, none⟩ := by unfold Addr.add; split <;> simp_all
    have h2 : (Lib.byteCells bs)[j]? = some (.int .u8 (bs[j].toNat : Int)) := by
      simp [Lib.byteCells, List.getElem?_eq_getElem hj]
    rw [hadd, cell_of_row w g j cur 5 (0, 0) hgg]
    rw [← ht, List.getElem?_take] at h2
    split at h2
    · simpa using h2
    · cases h2
/-- The steps' bytes so far. -/
theorem steps_len {cs : List Stp} (h : ∀ s ∈ cs, OkStp s) : (cs.flatMap stepB).length ≤ 60 * cs.length := by
  induction cs with
  | nil => simp
  | cons s r ih =>
    have h1 := stepB_len (h s (by simp))
    have h2 := ih (fun x hx => h x (by simp [hx]))
    simp only [List.flatMap_cons, List.length_append, List.length_cons]
    omega
theorem take_steps {cs : List Stp} {k : Nat} {s : Stp} (h : cs[k]? = some s) : (cs.take (k + 1)).flatMap stepB = (cs.take k).flatMap stepB ++ stepB s := by
  obtain ⟨hl, e⟩ := List.getElem?_eq_some_iff.1 h
  rw [List.take_succ_eq_append_getElem hl, List.flatMap_append, e]
  simp
theorem ncells_of_box {W : World} {g : Nat} {P : Int} {A1 A2 A3 A4 A5 A6 : Option Addr} {n1 c1 n2 c2 n3 c3 n4 c4 n5 c5 n6 c6 : Nat} (h : W.heap[g]? = some (.cells #[.int .i64 P, .slice A1 n1 c1, .slice A2 n2 c2, .slice A3 n3 c3, .slice A4 n4 c4, .slice A5 n5 c5, .slice A6 n6 c6] 26 (0, 0))) : NCells W g P A1 A2 A3 A4 A5 A6 n1 c1 n2 c2 n3 c3 n4 c4 n5 c5 n6 c6 := by
  refine ⟨?_, ?_, ?_, ?_, ?_, ?_, ?_⟩ <;> simp [World.cell?, h]
theorem box_kept {W W' : World} {g : Nat} {cs : Array Value} (h : W.heap[g]? = some (.cells cs 26 (0, 0))) (hk : Lib.OthersKept 5 none W W') : W'.heap[g]? = some (.cells cs 26 (0, 0)) :=
  hk _ _ h (by simp) (fun c fz e => by cases e)
/-- The state at the variable's making. -/
theorem WSt.start {w w1 w2 : World} {cs : Array Value} {A : Option Addr} {l c : Nat} {bs : List UInt8} (h : w2.heap[w.heap.size]? = some (.cells cs 26 (0, 0))) (ho : w2.ownsRow w.heap.size 5 1 (.slice A l c) bs.length (Lib.byteCells bs)) (hb : Below w.heap.size w w2) : WSt w (w2.alloc (.cells #[.slice A l c] 82)) w2.heap.size cs bs :=
  ⟨(Below.heap_alloc w2 _ _ (lt_of_block h)).trans h, ⟨.slice A l c, heap_alloc_new _ _, ho.alloc _⟩, hb.alloc hb.size _, lt_of_block h⟩
theorem put_head (B : Nat) (n : Int) (hn : okN n) (w : World) (hB : B ≤ w.heap.size) :
    Calls Tryd.prog 51 #[.slice (some ⟨w.heap.size, 0, none⟩) 4 4, .int .i64 n] (w.alloc (.cells #[.int .u8 67, .int .u8 76, .int .u8 80, .int .u8 49] 5 (4, 5))) fun r w' => ∃ A l c, r = .returned (.slice A l c) ∧ w'.ownsRow B 5 1 (.slice A l c) ([67, 76, 80, 49] ++ putV n).length (Lib.byteCells ([67, 76, 80, 49] ++ putV n)) ∧ Below B w w' ∧ Lib.OthersKept 5 none w w' := by
  have hM : RowM (w.alloc (.cells #[.int .u8 67, .int .u8 76, .int .u8 80, .int .u8 49] 5 (4, 5))) B (.slice (some ⟨w.heap.size, 0, none⟩) 4 4) 4 [.int .u8 67, .int .u8 76, .int .u8 80, .int .u8 49] :=
    .inr ⟨w.heap.size, #[.int .u8 67, .int .u8 76, .int .u8 80, .int .u8 49], (4, 5), rfl, hB, by show (w.heap.push _)[w.heap.size]? = _; simp, rfl, rfl⟩
  refine (put_any B 4 n hn _ _ _ hM (by simp; omega) (by omega)).mono ?_
  rintro r w' ⟨v', rfl, h1, h2, h3⟩
  obtain ⟨A, c, rfl⟩ := own_slice h1
  refine ⟨A, _, c, rfl, ?_, ?_, ?_⟩
  · rw [List.length_append, Lib.byteCells_append]; exact h1
  · exact ((Below.refl B w).alloc hB _).trans h2
  · exact ((Lib.OthersKept.refl 5 none w).alloc _).trans h3
set_option maxRecDepth 100000 in
set_option maxHeartbeats 8000000 in
theorem write_ok (P : Int) (A1 A2 A3 A4 A5 A6 : Option Addr) (n1 c1 n2 c2 n3 c3 n4 c4 n5 c5 n6 c6 : Nat) (N : NetP) (w : World) (h : NetAt w P A1 A2 A3 A4 A5 A6 n1 c1 n2 c2 n3 c3 n4 c4 n5 c5 n6 c6 N) (hok : OkNet N) (hg : HandleAt w) (hj : (judgeV N).1 = 0) :
    Calls Tryd.prog 17 #[.agg #[.int .i64 P, .slice A1 n1 c1, .slice A2 n2 c2, .slice A3 n3 c3, .slice A4 n4 c4, .slice A5 n5 c5, .slice A6 n6 c6]] w fun r w' => r = .returned (.tuple #[.string ⟨(imageV N).toArray⟩, .nilIface]) ∧ Below w.heap.size w w' := by
  have hb := (Below.refl w.heap.size w).alloc (Nat.le_refl _) (Obj.cells #[.int .i64 P, .slice A1 n1 c1, .slice A2 n2 c2, .slice A3 n3 c3, .slice A4 n4 c4, .slice A5 n5 c5, .slice A6 n6 c6] 26)
  have hch := check_any P A1 A2 A3 A4 A5 A6 n1 c1 n2 c2 n3 c3 n4 c4 n5 c5 n6 c6 N (w.alloc (.cells #[.int .i64 P, .slice A1 n1 c1, .slice A2 n2 c2, .slice A3 n3 c3, .slice A4 n4 c4, .slice A5 n5 c5, .slice A6 n6 c6] 26)) (h.up hb) (hg.up hb)
  unfold GivesErr at hch
  rw [hj] at hch
  have hpn : N.places = P := h.hp
  have okP : okN P := hpn ▸ hok.p
  have hx0 : (w.alloc (.cells #[.int .i64 P, .slice A1 n1 c1, .slice A2 n2 c2, .slice A3 n3 c3, .slice A4 n4 c4, .slice A5 n5 c5, .slice A6 n6 c6] 26)).heap[w.heap.size]? = some (.cells #[.int .i64 P, .slice A1 n1 c1, .slice A2 n2 c2, .slice A3 n3 c3, .slice A4 n4 c4, .slice A5 n5 c5, .slice A6 n6 c6] 26 (0, 0)) := heap_alloc_new _ _
  have HX0 := Lib.hid hx0
  have HCH := Lib.hid hch
  have HB := Lib.hid hb
  have H := Lib.hid h
  have HO := Lib.hid hok
  have HP := Lib.hid okP
  have HPN := Lib.hid hpn
  clear hb hch h hg hj hok okP hpn hx0
  have kc := fun (W : World) (C : Array Value) (n c : Nat) => Lib.run_convert_bytes_const (P := Tryd.prog) W 82 5 C n c Tryd.underlying82 Tryd.underlying5
  go_enter Tryd.func17, Tryd.ntmps17
  go_wp2_with (first | (go_at_call 14; refine HCH.out.mono ?_; rintro r w1 ⟨v, rfl, hev, hb1⟩; obtain rfl := hev.nil; have k0 := Lib.cell?_alloc_marked (.cells #[.int .u8 67, .int .u8 76, .int .u8 80, .int .u8 49] 5 (4, 5)) (ncells P A1 A2 A3 A4 A5 A6 n1 c1 n2 c2 n3 c3 n4 c4 n5 c5 n6 c6 w w1 hb1).r0) | (go_at_call 51; refine (put_head w.heap.size P HP.out w1 (below_up HB.out hb1).size).mono ?_; rintro r w2 ⟨E2, l2, e2, rfl, hown2, hb2, hk2⟩; have k1 := Lib.cell?_alloc_marked (.cells #[.slice E2 l2 e2] 82) (ncells_of_box (box_kept ((hb1.block _ (lt_of_block HX0.out)).trans HX0.out) hk2)).r1))
  have HX2 := box_kept ((hb1.block _ (lt_of_block HX0.out)).trans HX0.out) hk2
  have BL2 := (below_up HB.out hb1).trans hb2
  obtain ⟨b1, hb1'⟩ : ∃ b, b = [67, 76, 80, 49] ++ putV P := ⟨_, rfl⟩
  rw [← hb1'] at hown2
  have S2 := Lib.hid (WSt.start (w1 := w1) HX2 hown2 BL2)
  have BB1 := Lib.hid hb1'
  have L1 : Hid (b1.length ≤ 100000) := Lib.hid (by rw [BB1.out]; have := putV_len HP.out; simp; omega)
  have L1' : Hid (b1.length ≤ 14) := Lib.hid (by rw [BB1.out]; have := putV_len HP.out; simp; omega)
  clear HX2 BL2 hown2 hb1' hb1 hk2 hb2 hev HCH k0 kc
  obtain ⟨hp0, i1, i2, i3, i4, i5, i6, p0, m1, m2, m3, m4, m5, m6, k20⟩ := H.out
  obtain ⟨b2, hbb⟩ : ∃ b, b = b1 ++ listV N.first := ⟨_, rfl⟩
  have BB2 := Lib.hid hbb
  have L2 : Hid (b2.length ≤ 3024) := Lib.hid (by have h1 := listV_len (m := 300) i1.1 HO.out.first m1 (by omega); have h2 := L1'.out; rw [BB2.out, List.length_append]; omega)
  clear hbb
  obtain ⟨b3, hbb⟩ : ∃ b, b = b2 ++ listV N.ins := ⟨_, rfl⟩
  have BB3 := Lib.hid hbb
  have L3 : Hid (b3.length ≤ 3334) := Lib.hid (by have h1 := listV_len (m := 30) i2.1 HO.out.ins m2 (by omega); have h2 := L2.out; rw [BB3.out, List.length_append]; omega)
  clear hbb
  obtain ⟨b4, hbb⟩ : ∃ b, b = b3 ++ listV N.outs := ⟨_, rfl⟩
  have BB4 := Lib.hid hbb
  have L4 : Hid (b4.length ≤ 3644) := Lib.hid (by have h1 := listV_len (m := 30) i3.1 HO.out.outs m3 (by omega); have h2 := L3.out; rw [BB4.out, List.length_append]; omega)
  clear hbb
  obtain ⟨b5, hbb⟩ : ∃ b, b = b4 ++ listV N.keeps := ⟨_, rfl⟩
  have BB5 := Lib.hid hbb
  have L5 : Hid (b5.length ≤ 4254) := Lib.hid (by have h1 := listV_len (m := 60) i4.1 HO.out.keeps m4 (by omega); have h2 := L4.out; rw [BB5.out, List.length_append]; omega)
  clear hbb
  obtain ⟨b6, hbb⟩ : ∃ b, b = b5 ++ listV N.nums := ⟨_, rfl⟩
  have BB6 := Lib.hid hbb
  have L6 : Hid (b6.length ≤ 4864) := Lib.hid (by have h1 := listV_len (m := 60) i5.1 HO.out.nums m5 (by omega); have h2 := L5.out; rw [BB6.out, List.length_append]; omega)
  clear hbb
  clear i1 i2 i3 i4 i5 i6 k20 hp0
  have L2 : Hid (b2.length ≤ 100000) := Lib.hid (Nat.le_trans L2.out (by decide))
  have L3 : Hid (b3.length ≤ 100000) := Lib.hid (Nat.le_trans L3.out (by decide))
  have L4 : Hid (b4.length ≤ 100000) := Lib.hid (Nat.le_trans L4.out (by decide))
  have L5 : Hid (b5.length ≤ 100000) := Lib.hid (Nat.le_trans L5.out (by decide))
  have M6 : Hid (b6.length ≤ 4864) := L6
  have L6 : Hid (b6.length ≤ 100000) := Lib.hid (Nat.le_trans L6.out (by decide))
  have F3 := Lib.hid (list_any w.heap.size w2.heap.size A1 n1 c1 N.first b1 (w2.alloc (.cells #[.slice E2 l2 e2] 82)) S2.out.cap (Nat.le_of_lt S2.out.lt) (fun w' x y => H.out.i1.up (S2.out.below.trans x)) HO.out.first (by omega) L1.out)
  go_wp2_with (go_at_call 52; (with_reducible refine F3.out.mono ?_); rintro r w3 ⟨rfl, q1, q2, q3⟩; have S3 := Lib.hid (S2.out.next q1 q2 q3); have k3 := S3.out.cells.r2)
  clear F3
  clear q1 q2 q3 S2 k1
  rw [← BB2.out] at S3
  go_wp2_with (go_at_call 53; refine (wide_any A2 n2 c2 N.ins _ (H.out.i2.up S3.out.below) (by omega)).mono ?_; rintro r w4 ⟨E4, l4, e4, rfl, o4, q4⟩)
  have S4 := Lib.hid (S3.out.up q4)
  obtain ⟨rfl, i4, r4⟩ := own_ints o4
  have I4 := Lib.hid i4
  have R4 := Lib.hid r4
  clear i4 r4 o4 q4 S3
  have F5 := Lib.hid (list_any w.heap.size w2.heap.size E4 n2 e4 N.ins b2 w4 S4.out.cap (Nat.le_of_lt S4.out.lt) (fun w' x y => ints_kept (by decide) I4.out R4.out (fun hn b C e hC => S4.out.ne (by decide) hC) y) HO.out.ins (by omega) L2.out)
  go_wp2_with (go_at_call 52; (with_reducible refine F5.out.mono ?_); rintro r w5 ⟨rfl, q1, q2, q3⟩; have S5 := Lib.hid (S4.out.next q1 q2 q3); have k5 := S5.out.cells.r3)
  clear F5
  clear q1 q2 q3 S4 I4 R4
  rw [← BB3.out] at S5
  go_wp2_with (go_at_call 53; refine (wide_any A3 n3 c3 N.outs _ (H.out.i3.up S5.out.below) (by omega)).mono ?_; rintro r w6 ⟨E6, l6, e6, rfl, o6, q6⟩)
  have S6 := Lib.hid (S5.out.up q6)
  obtain ⟨rfl, i6, r6⟩ := own_ints o6
  have I6 := Lib.hid i6
  have R6 := Lib.hid r6
  clear i6 r6 o6 q6 S5
  have F7 := Lib.hid (list_any w.heap.size w2.heap.size E6 n3 e6 N.outs b3 w6 S6.out.cap (Nat.le_of_lt S6.out.lt) (fun w' x y => ints_kept (by decide) I6.out R6.out (fun hn b C e hC => S6.out.ne (by decide) hC) y) HO.out.outs (by omega) L3.out)
  go_wp2_with (go_at_call 52; (with_reducible refine F7.out.mono ?_); rintro r w7 ⟨rfl, q1, q2, q3⟩; have S7 := Lib.hid (S6.out.next q1 q2 q3); have k7 := S7.out.cells.r4)
  clear F7
  clear q1 q2 q3 S6 I6 R6
  rw [← BB4.out] at S7
  go_wp2_with (go_at_call 53; refine (wide_any A4 n4 c4 N.keeps _ (H.out.i4.up S7.out.below) (by omega)).mono ?_; rintro r w8 ⟨E8, l8, e8, rfl, o8, q8⟩)
  have S8 := Lib.hid (S7.out.up q8)
  obtain ⟨rfl, i8, r8⟩ := own_ints o8
  have I8 := Lib.hid i8
  have R8 := Lib.hid r8
  clear i8 r8 o8 q8 S7
  have F9 := Lib.hid (list_any w.heap.size w2.heap.size E8 n4 e8 N.keeps b4 w8 S8.out.cap (Nat.le_of_lt S8.out.lt) (fun w' x y => ints_kept (by decide) I8.out R8.out (fun hn b C e hC => S8.out.ne (by decide) hC) y) HO.out.keeps (by omega) L4.out)
  go_wp2_with (go_at_call 52; (with_reducible refine F9.out.mono ?_); rintro r w9 ⟨rfl, q1, q2, q3⟩; have S9 := Lib.hid (S8.out.next q1 q2 q3); have k9 := S9.out.cells.r5)
  clear F9
  clear q1 q2 q3 S8 I8 R8
  rw [← BB5.out] at S9
  have F10 := Lib.hid (list_any w.heap.size w2.heap.size A5 n5 c5 N.nums b5 w9 S9.out.cap (Nat.le_of_lt S9.out.lt) (fun w' x y => H.out.i5.up (S9.out.below.trans x)) HO.out.nums (by omega) L5.out)
  go_wp2_with (go_at_call 52; (with_reducible refine F10.out.mono ?_); rintro r w10 ⟨rfl, q1, q2, q3⟩; have S10 := Lib.hid (S9.out.next q1 q2 q3); have k10 := S10.out.cells.r6; obtain ⟨v10, g10, o10⟩ := S10.out.cap; have k11 := cell_of_one g10)
  clear F10
  rw [← BB6.out] at S10 o10
  have G10 := Lib.hid g10
  clear q1 q2 q3 S9 g10 k9
  obtain ⟨b7, hbb⟩ : ∃ b, b = b6 ++ putV (n6 : Int) := ⟨_, rfl⟩
  have BB7 := Lib.hid hbb
  clear hbb
  have F11 := Lib.hid (put_cap w.heap.size (n6 : Int) (okN_nat (by omega)) v10 b6 w10 o10 S10.out.below.size (by have := L6.out; omega))
  rw [← BB7.out] at F11
  go_wp2_with (go_at_call 51; (with_reducible refine F11.out.mono ?_); rintro r w11 ⟨E11, l11, e11, rfl, o11, q1, q2⟩; have y0 := cell_of_one (cap_kept G10.out q2); have y1 := free_of_one (cap_kept G10.out q2); have k12 := (S10.out.store G10.out o11 q1 q2).cells.r6)
  have S11 := Lib.hid (S10.out.store G10.out o11 q1 q2)
  clear F11 y0 y1 k10 k11 k12 o11 q1 q2 o10 G10 S10
  go_loopw [57] (fun i wr => ∃ k : Nat, k ≤ n6 ∧ i = .int .i64 k ∧ WSt w wr w2.heap.size #[.int .i64 P, .slice A1 n1 c1, .slice A2 n2 c2, .slice A3 n3 c3, .slice A4 n4 c4, .slice A5 n5 c5, .slice A6 n6 c6] (b7 ++ (N.code.take k).flatMap stepB)) (fun i _ => n6 - (intOf i).toNat)
  case atStart => exact ⟨0, Nat.zero_le _, rfl, by simpa using S11.out⟩
  case round =>
    obtain ⟨k, hk, rfl, hst⟩ := hrel
    have SW := Lib.hid hst
    clear hst
    by_cases hlt : k < n6
    · obtain ⟨b, o, rfl, hc⟩ := (H.out.i6.up SW.out.below).2 (by omega)
      obtain ⟨s, hs0, hs1, hs2, hs3, hs4, hs5⟩ := hc k hlt
      have OS := Lib.hid (HO.out.code s (List.mem_of_getElem? hs0))
      have HT := Lib.hid (take_steps hs0)
      have OK1 : Hid (okN s.c) := Lib.hid OS.out.1
      have OK2 : Hid (okN s.d) := Lib.hid OS.out.2.1
      have OK3 : Hid (okN s.a) := Lib.hid OS.out.2.2.1
      have LA : Hid ((b7 ++ (N.code.take k).flatMap stepB).length ≤ 100000) := Lib.hid (by
        have h1 := steps_len (cs := N.code.take k) (fun x hx => HO.out.code x (List.mem_of_mem_take hx))
        have h2 : (N.code.take k).length ≤ k := List.length_take_le _ _
        have h3 := putV_len (okN_nat (n := n6) (by omega))
        have h4 := M6.out
        rw [List.length_append, BB7.out, List.length_append]
        omega)
      obtain ⟨acc, hacc⟩ : ∃ acc, acc = b7 ++ (N.code.take k).flatMap stepB := ⟨_, rfl⟩
      rw [← hacc] at SW LA
      have AC := Lib.hid hacc
      clear hc hs0 hacc
      go_upto_region 16 with fail
      have RW := Lib.hid (RSt.start s SW.out)
      obtain ⟨g, hg⟩ : ∃ g, g = wr.heap.size := ⟨_, rfl⟩
      obtain ⟨W, hW⟩ : ∃ W, W = wr.alloc (.cells #[.int .i64 s.c, .int .i64 s.d, .int .i64 s.a, .int .i64 s.b, .int .i64 s.e] 31) := ⟨_, rfl⟩
      rw [← hg, ← hW]
      rw [← hg, ← hW] at RW
      clear hg hW hs1 hs2 hs3 hs4 hs5
      go_cut [57] from 57 to 86 (fun i wx => i = .int .i64 k ∧ RSt w wx w2.heap.size #[.int .i64 P, .slice A1 n1 c1, .slice A2 n2 c2, .slice A3 n3 c3, .slice A4 n4 c4, .slice A5 n5 c5, .slice (some ⟨b, o, none⟩) n6 c6] (acc ++ putV s.c ++ putV s.d) g s)
      case first =>
        obtain ⟨v0, g0, o0⟩ := RW.out.st.cap
        obtain ⟨s0, s1, _, _, _⟩ := step_cells RW.out.sb
        have G0 := Lib.hid g0
        have O0 := Lib.hid o0
        have BZ := Lib.hid RW.out.st.below.size
        have t0 := cell_of_one g0
        clear g0 o0
        go_region_with (first | (go_at_call 51; ((with_reducible refine (put_cap w.heap.size s.c OK1.out v0 acc _ ?_ ?_ ?_).mono ?_); exact O0.out; exact BZ.out; exact Nat.le_trans LA.out (by decide); rintro r w3 ⟨E3, l3, e3, rfl, o3, q1, q2⟩; have s1' := (step_cells (step_kept RW.out.sb q2)).2.1; have O3 := Lib.hid o3; have Q1 := Lib.hid q1; have Q2 := Lib.hid q2; clear o3 q1 q2)) | (go_at_call 51; ((with_reducible refine (put_cap w.heap.size s.d OK2.out (.slice E3 l3 e3) (acc ++ putV s.c) _ ?_ ?_ ?_).mono ?_); exact O3.out; exact Nat.le_trans BZ.out Q1.out.size; (have h1 := putV_len OS.out.1; have h2 := LA.out; rw [List.length_append]; omega); rintro r w4 ⟨E4, l4, e4, rfl, o4, q1, q2⟩; have y0 := cell_of_one (cap_kept (cap_kept G0.out Q2.out) q2); have y1 := free_of_one (cap_kept (cap_kept G0.out Q2.out) q2); have O4 := Lib.hid o4; have Q3 := Lib.hid q1; have Q4 := Lib.hid q2; clear o4 q1 q2)))
        all_goals
          go_wp2_with fail
          go_meet
          case rel => exact ⟨rfl, RW.out.drew.store G0.out O4.out (Q1.out.trans Q3.out) (Q2.out.trans Q4.out)⟩
      case rest =>
        obtain ⟨rfl, hR⟩ := hcut
        have RC := Lib.hid hR
        obtain ⟨s0, s1, s2, s3, s4⟩ := step_cells hR.sb
        obtain ⟨v5, g5, o5⟩ := hR.st.cap
        have G5 := Lib.hid g5
        have y5 := cell_of_one g5
        have L5' : (acc ++ putV s.c ++ putV s.d).length ≤ 100020 := by
          have h1 := putV_len OK1.out
          have h2 := putV_len OK2.out
          have h3 := LA.out
          simp only [List.length_append]
          omega
        have F5 := Lib.hid (put_cap w.heap.size s.a OK3.out v5 (acc ++ putV s.c ++ putV s.d) wc o5 hR.st.below.size (by omega))
        obtain ⟨acc3, ha3⟩ : ∃ a, a = acc ++ putV s.c ++ putV s.d ++ (if s.c = 1 then putV s.a else []) := ⟨_, rfl⟩
        have L3' : acc3.length ≤ 100030 := by
          rw [ha3, List.length_append]
          have h1 := putV_len OK3.out
          split
          · omega
          · rw [List.length_nil]; omega
        have AA3 := Lib.hid ha3
        clear hR g5 o5 RW SW L5' ha3
        go_upto_if 70 with fail
        go_cut [57] from 57 to 86 (fun i wx => i = .int .i64 k ∧ RSt w wx w2.heap.size #[.int .i64 P, .slice A1 n1 c1, .slice A2 n2 c2, .slice A3 n3 c3, .slice A4 n4 c4, .slice A5 n5 c5, .slice (some ⟨b, o, none⟩) n6 c6] acc3 g s)
        case first =>
          by_cases hn1 : s.c = 1
          · have hb1 : (s.c == 1) = true := by simpa using hn1
            have N1 := Lib.hid hn1
            clear hn1
            have e1 : acc ++ putV s.c ++ putV s.d ++ putV s.a = acc3 := by rw [AA3.out, if_pos N1.out]
            rw [e1] at F5
            clear e1
            go_wp2_with (go_at_call 51; (with_reducible refine F5.out.mono ?_); rintro r w5 ⟨E5, l5, e5, rfl, o5, q1, q2⟩; have y0 := cell_of_one (cap_kept G5.out q2); have y1 := free_of_one (cap_kept G5.out q2))
            go_meet
            case rel => exact ⟨rfl, RC.out.store G5.out o5 q1 q2⟩
          · have hb1 : (s.c == 1) = false := by simpa using hn1
            have e1 : acc ++ putV s.c ++ putV s.d = acc3 := by rw [AA3.out, if_neg hn1, List.append_nil]
            rw [e1] at RC
            clear e1 hn1
            go_wp2_with fail
            go_meet
            case rel => exact ⟨rfl, RC.out⟩
        case rest =>
          obtain ⟨rfl, hR⟩ := hcut
          have R1 := Lib.hid hR
          obtain ⟨d0, d1, d2, d3, d4⟩ := step_cells hR.sb
          clear hR F5 G5 y5 s0 s1 s2 s3 s4 RC
          go_wp2_with (go_at_call 11; ((with_reducible refine (asks_anyR s _).mono ?_); rintro r w6 ⟨AA, ca, rfl, hca, hia, hra, hba⟩))
          have har := arity_le s.c
          have AX := Lib.hid (asks_ok OS.out)
          have R2 := Lib.hid (R1.out.up hba)
          have W2 : Hid (RowAt w6 AA (arityV s.c) (asksV s)) := Lib.hid ⟨hia, hra⟩
          obtain ⟨ar, har0⟩ : ∃ ar, ar = arityV s.c := ⟨_, rfl⟩
          obtain ⟨as1, has0⟩ : ∃ as1, as1 = asksV s := ⟨_, rfl⟩
          have hal : as1.length = ar := by rw [has0, har0]; exact asks_len s
          have HAS := Lib.hid has0
          rw [← has0] at W2 AX
          rw [← har0] at W2 har
          rw [← har0] at hca hia hra ⊢
          clear hca hia hra hba R1 d0 d1 d2 d3 d4 has0 har0
          have HAL := Lib.hid hal
          clear hal
          go_loopw [78] (fun j wr => ∃ m : Nat, m ≤ ar ∧ j = .int .i64 m ∧ RSt w wr w2.heap.size #[.int .i64 P, .slice A1 n1 c1, .slice A2 n2 c2, .slice A3 n3 c3, .slice A4 n4 c4, .slice A5 n5 c5, .slice (some ⟨b, o, none⟩) n6 c6] (acc3 ++ numsV (as1.take m)) g s ∧ RowAt wr AA ar as1) (fun j _ => ar - (intOf j).toNat)
          case atStart => exact ⟨0, Nat.zero_le _, rfl, by simpa [numsV] using R2.out, W2.out⟩
          case round =>
            obtain ⟨m, hm, rfl, hrs, hrow⟩ := hrel
            have RS := Lib.hid hrs
            have RO := Lib.hid hrow
            clear hrs hrow
            by_cases hmlt : m < ar
            · obtain ⟨b2', o2', rfl, hc⟩ := RO.out.1.2 (by omega)
              have hcm := hc m hmlt
              have ht := take_numsV HAL.out m hmlt
              have hx := getD_ok AX.out m
              have hl := take_numsV_len AX.out m
              obtain ⟨v7, g7, o7⟩ := RS.out.st.cap
              obtain ⟨acc4, ha4⟩ : ∃ a, a = acc3 ++ numsV (as1.take m) := ⟨_, rfl⟩
              have hl4 : acc4.length ≤ 100100 := by rw [ha4, List.length_append]; omega
              obtain ⟨x, hx0⟩ : ∃ x, x = as1.getD m 0 := ⟨_, rfl⟩
              rw [← hx0] at hcm ht hx
              rw [← ha4] at o7 RS
              have HT2 : Hid (acc3 ++ numsV (as1.take (m + 1)) = acc4 ++ putV x) := Lib.hid (by rw [ht, ha4, List.append_assoc])
              have F7 := Lib.hid (put_cap w.heap.size x hx v7 acc4 wr o7 RS.out.st.below.size (by omega))
              have G7 := Lib.hid g7
              have y7 := cell_of_one g7
              clear hc ht hx hl o7 g7 ha4 hx0
              go_wp2_with (go_at_call 51; (with_reducible refine F7.out.mono ?_); rintro r w8 ⟨E8', l8', e8', rfl, o8, q1, q2⟩; have y0 := cell_of_one (cap_kept G7.out q2); have y1 := free_of_one (cap_kept G7.out q2))
              have R3 := Lib.hid (RS.out.store G7.out o8 q1 q2)
              have R4 := Lib.hid (RO.out.store (v := .slice E8' l8' e8') RS.out q2)
              clear o8 q1 q2 y0 y1 y7 F7
              go_roundw
              case rel => exact ⟨m + 1, by omega, by go_num, by rw [HT2.out]; exact R3.out, R4.out⟩
              case measure => simp [intOf]; omega
            · go_wp2_with fail
              go_roundw
              case rel =>
                refine ⟨k + 1, by omega, by go_num, ?_⟩
                have e2 : as1.take m = as1 := List.take_of_length_le (by rw [HAL.out]; omega)
                have h3 := RS.out.st
                rw [e2] at h3
                rw [HT.out, ← List.append_assoc, ← AC.out]
                unfold stepB
                rw [← HAS.out, ← List.append_assoc, ← List.append_assoc, ← List.append_assoc, ← AA3.out]
                exact h3
              case measure => simp [intOf]; omega
    · obtain rfl : k = n6 := by omega
      have hst := SW.out
      rw [List.take_of_length_le (by rw [H.out.i6.1]; exact Nat.le_refl _)] at hst
      have hpos : 0 < (b7 ++ N.code.flatMap stepB).length := by rw [BB7.out, List.length_append, List.length_append]; have := Lib.uvarint_pos (Lib.zigzag (k : Int)); unfold putV; omega
      obtain ⟨im, him⟩ : ∃ im, im = b7 ++ N.code.flatMap stepB := ⟨_, rfl⟩
      have IM : Hid (im = imageV N) := Lib.hid (by rw [him, BB7.out, BB6.out, BB5.out, BB4.out, BB3.out, BB2.out, BB1.out]; unfold imageV; rw [HPN.out, H.out.i6.1])
      rw [← him] at hst hpos
      obtain ⟨v9, g9, o9⟩ := hst.cap
      obtain ⟨E9, e9, rfl⟩ := own_slice o9
      have y9 := cell_of_one g9
      have hcv := own_string o9 hpos
      clear o9 g9 him hst
      go_wp2
      go_ret2
      refine ⟨?_, SW.out.below⟩
      show Ending.returned (.tuple #[.string ⟨im.toArray⟩, .nilIface]) = _
      rw [IM.out]
end Go.Proofs.YtgglbjniclkkpaaDoor

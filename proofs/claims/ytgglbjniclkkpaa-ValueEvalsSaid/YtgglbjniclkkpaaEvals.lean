/-
  value.Eval and the reference's Eval, by what lies in memory: each expression comes to its number, in every world in which what lay there lies as it lay.
-/
import Derived.Test.YtgglbjniclkkpaaValues
import Derived.Deep.RegionHeld3
import Derived.Maps.OwnOps
namespace Go.Proofs.Ytgglbjniclkkpaa
open Go.RowKit Go.Maps

theorem cell_up {w W : World} {b o : Nat} {v : Value} (hb : Below w.heap.size w W) (h : w.cell? ⟨b, o, none⟩ = some v) : W.cell? ⟨b, o, none⟩ = some v :=
  (hb.cell (World.block_lt_of_cell? w _ h)).trans h
theorem lt_up {w W : World} {b o : Nat} {v : Value} (hb : Below w.heap.size w W) (h : w.cell? ⟨b, o, none⟩ = some v) : b < W.heap.size :=
  Nat.lt_of_lt_of_le (World.block_lt_of_cell? w _ h) hb.size
theorem below_up {w W W' : World} (h : Below w.heap.size w W) (h' : Below W.heap.size W W') : Below w.heap.size w W' := h.trans (h'.mono h.size)
theorem keep5 {w W W1 W2 : World} {b o b' o' d p d' p' f g : Nat} {v v' u u' z : Value}
    (h : W1.cell? ⟨b, o, none⟩ = some v ∧ W1.cell? ⟨b', o', none⟩ = some v' ∧ W1.cell? ⟨d, p, none⟩ = some u ∧ W1.cell? ⟨d', p', none⟩ = some u' ∧ W1.cell? ⟨f, g, none⟩ = some z ∧ Below w.heap.size w W1 ∧ Below W.heap.size W W1)
    (hb : Below W1.heap.size W1 W2) : W2.cell? ⟨b, o, none⟩ = some v ∧ W2.cell? ⟨b', o', none⟩ = some v' ∧ W2.cell? ⟨d, p, none⟩ = some u ∧ W2.cell? ⟨d', p', none⟩ = some u' ∧ W2.cell? ⟨f, g, none⟩ = some z ∧ Below w.heap.size w W2 ∧ Below W.heap.size W W2 :=
  ⟨cell_up hb h.1, cell_up hb h.2.1, cell_up hb h.2.2.1, cell_up hb h.2.2.2.1, cell_up hb h.2.2.2.2.1, below_up h.2.2.2.2.2.1 hb, below_up h.2.2.2.2.2.2 hb⟩
theorem pick5 {A B C D E F G : Prop} (h : A ∧ B ∧ C ∧ D ∧ E ∧ F ∧ G) : E := h.2.2.2.2.1
theorem pick6 {A B C D E F G : Prop} (h : A ∧ B ∧ C ∧ D ∧ E ∧ F ∧ G) : F := h.2.2.2.2.2.1
theorem pick7 {A B C D E F G : Prop} (h : A ∧ B ∧ C ∧ D ∧ E ∧ F ∧ G) : G := h.2.2.2.2.2.2

/-- The expression at p comes to v by value.Eval. -/
def EvalsTo (w : World) (m0 m1 : Addr) (p : Option Addr) (v : Int) : Prop := ∀ W, Below w.heap.size w W →
  Calls Try.prog 16 #[.pointer p, .agg #[.func (.func 14) #[] #[.pointer (some m0)], .func (.func 15) #[] #[.pointer (some m1)]]] W fun e W' => e = .returned (.int .i64 v) ∧ Below W.heap.size W W'
/-- .. and by the reference's. -/
def RefsTo (w : World) (n0 n1 : Nat) (p : Option Addr) (v : Int) : Prop := ∀ W, Below w.heap.size w W →
  Calls Try.prog 17 #[.pointer p, .map (some n0), .map (some n1)] W fun e W' => e = .returned (.int .i64 v) ∧ Below W.heap.size W W'
/-- The map at block n gives c at s. -/
def Looks (w : World) (n : Nat) (s : ByteArray) (c : Int) : Prop := ∀ W, Below w.heap.size w W → (Instr.lookup 30 (.map (some n)) (.string s) false).run Try.prog W = .ok (.int .i64 c) W

theorem now_any (s : ByteArray) (m : Addr) (n : Nat) (c : Int) (W : World) (hm : W.cell? m = some (.map (some n))) (hl : (Instr.lookup 30 (.map (some n)) (.string s) false).run Try.prog W = .ok (.int .i64 c) W) :
    Calls Try.prog 14 #[.string s, .pointer (some m)] W fun e W' => e = .returned (.int .i64 c) ∧ W = W' := by
  go_enter Try.func14, Try.ntmps14
  go_wp2
  go_ret
  exact ⟨rfl, rfl⟩
theorem was_any (s : ByteArray) (m : Addr) (n : Nat) (c : Int) (W : World) (hm : W.cell? m = some (.map (some n))) (hl : (Instr.lookup 30 (.map (some n)) (.string s) false).run Try.prog W = .ok (.int .i64 c) W) :
    Calls Try.prog 15 #[.string s, .pointer (some m)] W fun e W' => e = .returned (.int .i64 c) ∧ W = W' := by
  go_enter Try.func15, Try.ntmps15
  go_wp2
  go_ret
  exact ⟨rfl, rfl⟩

section
variable (w : World) (m0 m1 : Addr)

theorem evals_nil : EvalsTo w m0 m1 none 0 := by
  intro W hb
  go_enter Try.func16, Try.ntmps16
  go_wp2
  go_ret
  exact ⟨rfl, (Below.refl _ _).alloc (Nat.le_refl _) _⟩
theorem evals_num (b : Nat) (y : Int) (h0 : w.cell? ⟨b, 0, none⟩ = some (.int .i64 1)) (h1 : w.cell? ⟨b, 1, none⟩ = some (.int .i64 y)) : EvalsTo w m0 m1 (some ⟨b, 0, none⟩) y := by
  intro W hb
  have c0 := cell_up hb h0
  have c1 := cell_up hb h1
  have lt := lt_up hb h0
  clear h0 h1
  go_enter Try.func16, Try.ntmps16
  go_wp2
  go_ret
  exact ⟨rfl, (Below.refl _ _).alloc (Nat.le_refl _) _⟩
set_option maxHeartbeats 1000000 in
theorem evals_var (mb mo n : Nat) (b : Nat) (s : ByteArray) (c : Int) (h0 : w.cell? ⟨b, 0, none⟩ = some (.int .i64 2)) (h2 : w.cell? ⟨b, 2, none⟩ = some (.string s)) (hm : w.cell? ⟨mb, mo, none⟩ = some (.map (some n))) (hl : Looks w n s c) :
    EvalsTo w ⟨mb, mo, none⟩ m1 (some ⟨b, 0, none⟩) c := by
  intro W hb
  have c0 := cell_up hb h0
  have c2 := cell_up hb h2
  have cm := cell_up hb hm
  have lt := lt_up hb h0
  clear h0 h2 hm
  go_enter Try.func16, Try.ntmps16
  go_wp2
  have s1 := (Below.refl W.heap.size W).alloc (Nat.le_refl _) (Obj.cells #[Value.func (Fn.func 14) #[] #[Value.pointer (some ⟨mb, mo, none⟩)], Value.func (Fn.func 15) #[] #[Value.pointer (some m1)]] 33)
  have s2 := below_up hb s1
  have s3 := cell_up s1 c0
  have s4 := cell_up s1 c2
  have s5 := cell_up s1 cm
  go_region_held3 (fun w' => w'.cell? ⟨b, 0, none⟩ = some (.int .i64 2) ∧ w'.cell? ⟨b, 2, none⟩ = some (.string s) ∧ w'.cell? ⟨W.heap.size, 0, none⟩ = some (.func (.func 14) #[] #[.pointer (some ⟨mb, mo, none⟩)]) ∧ w'.cell? ⟨W.heap.size, 1, none⟩ = some (.func (.func 15) #[] #[.pointer (some m1)]) ∧ w'.cell? ⟨mb, mo, none⟩ = some (.map (some n)) ∧ Below w.heap.size w w' ∧ Below W.heap.size W w')
    ((first | exact ⟨s3, s4, by simp, by simp, s5, s2.drew, s1.drew⟩ | assumption | exact keep5 (by assumption) (by assumption)))
    (first | (go_at_call 14; refine (now_any _ _ n c _ ?_ ?_).mono ?_; (have hS := pick5 (by assumption); exact hS); (exact hl _ (pick6 (by assumption))); rintro e w' ⟨rfl, rfl⟩))
  go_wp2
  go_ret
  exact ⟨rfl, pick7 (by assumption)⟩
set_option maxHeartbeats 1000000 in
theorem evals_pre (mb mo n : Nat) (b : Nat) (s : ByteArray) (c : Int) (h0 : w.cell? ⟨b, 0, none⟩ = some (.int .i64 3)) (h2 : w.cell? ⟨b, 2, none⟩ = some (.string s)) (hm : w.cell? ⟨mb, mo, none⟩ = some (.map (some n))) (hl : Looks w n s c) :
    EvalsTo w m0 ⟨mb, mo, none⟩ (some ⟨b, 0, none⟩) c := by
  intro W hb
  have c0 := cell_up hb h0
  have c2 := cell_up hb h2
  have cm := cell_up hb hm
  have lt := lt_up hb h0
  clear h0 h2 hm
  go_enter Try.func16, Try.ntmps16
  go_wp2
  have s1 := (Below.refl W.heap.size W).alloc (Nat.le_refl _) (Obj.cells #[Value.func (Fn.func 14) #[] #[Value.pointer (some m0)], Value.func (Fn.func 15) #[] #[Value.pointer (some ⟨mb, mo, none⟩)]] 33)
  have s2 := below_up hb s1
  have s3 := cell_up s1 c0
  have s4 := cell_up s1 c2
  have s5 := cell_up s1 cm
  go_region_held3 (fun w' => w'.cell? ⟨b, 0, none⟩ = some (.int .i64 3) ∧ w'.cell? ⟨b, 2, none⟩ = some (.string s) ∧ w'.cell? ⟨W.heap.size, 0, none⟩ = some (.func (.func 14) #[] #[.pointer (some m0)]) ∧ w'.cell? ⟨W.heap.size, 1, none⟩ = some (.func (.func 15) #[] #[.pointer (some ⟨mb, mo, none⟩)]) ∧ w'.cell? ⟨mb, mo, none⟩ = some (.map (some n)) ∧ Below w.heap.size w w' ∧ Below W.heap.size W w')
    ((first | exact ⟨s3, s4, by simp, by simp, s5, s2.drew, s1.drew⟩ | assumption | exact keep5 (by assumption) (by assumption)))
    (first | (go_at_call 15; refine (was_any _ _ n c _ ?_ ?_).mono ?_; (have hS := pick5 (by assumption); exact hS); (exact hl _ (pick6 (by assumption))); rintro e w' ⟨rfl, rfl⟩))
  go_wp2
  go_ret
  exact ⟨rfl, pick7 (by assumption)⟩
set_option maxHeartbeats 1000000 in
theorem evals_un4 (b : Nat) (q : Option Addr) (x : Int) (h0 : w.cell? ⟨b, 0, none⟩ = some (.int .i64 4)) (h3 : w.cell? ⟨b, 3, none⟩ = some (.pointer q)) (hx : EvalsTo w m0 m1 q x) : EvalsTo w m0 m1 (some ⟨b, 0, none⟩) (oneV 4 x) := by
  intro W hb
  have c0 := cell_up hb h0
  have c3 := cell_up hb h3
  have lt := lt_up hb h0
  clear h0 h3
  go_enter Try.func16, Try.ntmps16
  go_wp2
  have s1 := (Below.refl W.heap.size W).alloc (Nat.le_refl _) (Obj.cells #[Value.func (Fn.func 14) #[] #[Value.pointer (some m0)], Value.func (Fn.func 15) #[] #[Value.pointer (some m1)]] 33)
  have s2 := below_up hb s1
  have s3 := cell_up s1 c0
  have s4 := cell_up s1 c3
  go_region_held3 (fun w' => w'.cell? ⟨b, 0, none⟩ = some (.int .i64 4) ∧ w'.cell? ⟨b, 3, none⟩ = some (.pointer q) ∧ w'.cell? ⟨W.heap.size, 0, none⟩ = some (.func (.func 14) #[] #[.pointer (some m0)]) ∧ w'.cell? ⟨W.heap.size, 1, none⟩ = some (.func (.func 15) #[] #[.pointer (some m1)]) ∧ w'.cell? ⟨b, 3, none⟩ = some (.pointer q) ∧ Below w.heap.size w w' ∧ Below W.heap.size W w')
    ((first | exact ⟨s3, s4, by simp, by simp, s4, s2.drew, s1.drew⟩ | assumption | exact keep5 (by assumption) (by assumption)))
    (first | (go_at_call 16; refine (hx _ ?_).mono ?_; (exact pick6 (by assumption)); rintro e w' ⟨rfl, hb'⟩) | (go_at_call 6; refine (one_any _ _ _).mono ?_; rintro e w' ⟨rfl, rfl⟩))
  go_wp2
  go_ret
  exact ⟨rfl, pick7 (by assumption)⟩
set_option maxHeartbeats 1000000 in
theorem evals_un5 (b : Nat) (q : Option Addr) (x : Int) (h0 : w.cell? ⟨b, 0, none⟩ = some (.int .i64 5)) (h3 : w.cell? ⟨b, 3, none⟩ = some (.pointer q)) (hx : EvalsTo w m0 m1 q x) : EvalsTo w m0 m1 (some ⟨b, 0, none⟩) (oneV 5 x) := by
  intro W hb
  have c0 := cell_up hb h0
  have c3 := cell_up hb h3
  have lt := lt_up hb h0
  clear h0 h3
  go_enter Try.func16, Try.ntmps16
  go_wp2
  have s1 := (Below.refl W.heap.size W).alloc (Nat.le_refl _) (Obj.cells #[Value.func (Fn.func 14) #[] #[Value.pointer (some m0)], Value.func (Fn.func 15) #[] #[Value.pointer (some m1)]] 33)
  have s2 := below_up hb s1
  have s3 := cell_up s1 c0
  have s4 := cell_up s1 c3
  go_region_held3 (fun w' => w'.cell? ⟨b, 0, none⟩ = some (.int .i64 5) ∧ w'.cell? ⟨b, 3, none⟩ = some (.pointer q) ∧ w'.cell? ⟨W.heap.size, 0, none⟩ = some (.func (.func 14) #[] #[.pointer (some m0)]) ∧ w'.cell? ⟨W.heap.size, 1, none⟩ = some (.func (.func 15) #[] #[.pointer (some m1)]) ∧ w'.cell? ⟨b, 3, none⟩ = some (.pointer q) ∧ Below w.heap.size w w' ∧ Below W.heap.size W w')
    ((first | exact ⟨s3, s4, by simp, by simp, s4, s2.drew, s1.drew⟩ | assumption | exact keep5 (by assumption) (by assumption)))
    (first | (go_at_call 16; refine (hx _ ?_).mono ?_; (exact pick6 (by assumption)); rintro e w' ⟨rfl, hb'⟩) | (go_at_call 6; refine (one_any _ _ _).mono ?_; rintro e w' ⟨rfl, rfl⟩))
  go_wp2
  go_ret
  exact ⟨rfl, pick7 (by assumption)⟩
set_option maxHeartbeats 2000000 in
theorem evals_bin (b : Nat) (k : Int) (q r : Option Addr) (x y : Int) (k1 : 6 ≤ k) (k2 : k ≤ 16) (h0 : w.cell? ⟨b, 0, none⟩ = some (.int .i64 k)) (h3 : w.cell? ⟨b, 3, none⟩ = some (.pointer q)) (h4 : w.cell? ⟨b, 4, none⟩ = some (.pointer r))
    (hx : EvalsTo w m0 m1 q x) (hy : EvalsTo w m0 m1 r y) : EvalsTo w m0 m1 (some ⟨b, 0, none⟩) (twoV k x y) := by
  intro W hb
  have c0 := cell_up hb h0
  have c3 := cell_up hb h3
  have c4 := cell_up hb h4
  have lt := lt_up hb h0
  clear h0 h3 h4
  go_enter Try.func16, Try.ntmps16
  go_wp2
  have s1 := (Below.refl W.heap.size W).alloc (Nat.le_refl _) (Obj.cells #[Value.func (Fn.func 14) #[] #[Value.pointer (some m0)], Value.func (Fn.func 15) #[] #[Value.pointer (some m1)]] 33)
  have s2 := below_up hb s1
  have s3 := cell_up s1 c0
  have s4 := cell_up s1 c3
  have s5 := cell_up s1 c4
  go_region_held3 (fun w' => w'.cell? ⟨b, 0, none⟩ = some (.int .i64 k) ∧ w'.cell? ⟨b, 3, none⟩ = some (.pointer q) ∧ w'.cell? ⟨W.heap.size, 0, none⟩ = some (.func (.func 14) #[] #[.pointer (some m0)]) ∧ w'.cell? ⟨W.heap.size, 1, none⟩ = some (.func (.func 15) #[] #[.pointer (some m1)]) ∧ w'.cell? ⟨b, 4, none⟩ = some (.pointer r) ∧ Below w.heap.size w w' ∧ Below W.heap.size W w')
    ((first | exact ⟨s3, s4, by simp, by simp, s5, s2.drew, s1.drew⟩ | assumption | exact keep5 (by assumption) (by assumption)))
    (first | (go_at_call_of 16 q; refine (hx _ ?_).mono ?_; (exact pick6 (by assumption)); rintro e w' ⟨rfl, hb'⟩) | (go_at_call_of 16 r; refine (hy _ ?_).mono ?_; (exact pick6 (by assumption)); rintro e w' ⟨rfl, hb'⟩) | (go_at_call 8; refine (two_any _ _ _ _).mono ?_; rintro e w' ⟨rfl, rfl⟩))
  all_goals
    go_wp2
    go_ret
    exact ⟨rfl, pick7 (by assumption)⟩
end

/-! ### the reference's -/
section
variable (w : World) (n0 n1 : Nat)
theorem refs_num (b : Nat) (y : Int) (h0 : w.cell? ⟨b, 0, none⟩ = some (.int .i64 1)) (h1 : w.cell? ⟨b, 1, none⟩ = some (.int .i64 y)) : RefsTo w n0 n1 (some ⟨b, 0, none⟩) y := by
  intro W hb
  have c0 := cell_up hb h0
  have c1 := cell_up hb h1
  clear h0 h1
  go_enter Try.func17, Try.ntmps17
  go_wp2
  go_ret
  exact ⟨rfl, Below.refl _ _⟩
theorem refs_var (b : Nat) (s : ByteArray) (c : Int) (h0 : w.cell? ⟨b, 0, none⟩ = some (.int .i64 2)) (h2 : w.cell? ⟨b, 2, none⟩ = some (.string s)) (hl : Looks w n0 s c) : RefsTo w n0 n1 (some ⟨b, 0, none⟩) c := by
  intro W hb
  have c0 := cell_up hb h0
  have c2 := cell_up hb h2
  have hlW := hl W hb
  clear h0 h2 hl
  go_enter Try.func17, Try.ntmps17
  go_wp2
  go_ret
  exact ⟨rfl, Below.refl _ _⟩
theorem refs_pre (b : Nat) (s : ByteArray) (c : Int) (h0 : w.cell? ⟨b, 0, none⟩ = some (.int .i64 3)) (h2 : w.cell? ⟨b, 2, none⟩ = some (.string s)) (hl : Looks w n1 s c) : RefsTo w n0 n1 (some ⟨b, 0, none⟩) c := by
  intro W hb
  have c0 := cell_up hb h0
  have c2 := cell_up hb h2
  have hlW := hl W hb
  clear h0 h2 hl
  go_enter Try.func17, Try.ntmps17
  go_wp2
  go_ret
  exact ⟨rfl, Below.refl _ _⟩
set_option maxHeartbeats 1000000 in
theorem refs_un4 (b : Nat) (q : Option Addr) (x : Int) (h0 : w.cell? ⟨b, 0, none⟩ = some (.int .i64 4)) (h3 : w.cell? ⟨b, 3, none⟩ = some (.pointer q)) (hx : RefsTo w n0 n1 q x) : RefsTo w n0 n1 (some ⟨b, 0, none⟩) (oneV 4 x) := by
  intro W hb
  have c0 := cell_up hb h0
  have c3 := cell_up hb h3
  have lt := lt_up hb h0
  clear h0 h3
  go_enter Try.func17, Try.ntmps17
  go_wp2
  have s1 := (Below.refl W.heap.size W)
  go_region_held3 (fun w' => w'.cell? ⟨b, 0, none⟩ = some (.int .i64 4) ∧ w'.cell? ⟨b, 3, none⟩ = some (.pointer q) ∧ w'.cell? ⟨b, 3, none⟩ = some (.pointer q) ∧ w'.cell? ⟨b, 3, none⟩ = some (.pointer q) ∧ w'.cell? ⟨b, 3, none⟩ = some (.pointer q) ∧ Below w.heap.size w w' ∧ Below W.heap.size W w')
    ((first | exact ⟨c0, c3, c3, c3, c3, hb.drew, s1.drew⟩ | assumption | exact keep5 (by assumption) (by assumption)))
    (first | (go_at_call 17; refine (hx _ ?_).mono ?_; (exact pick6 (by assumption)); rintro e w' ⟨rfl, hb'⟩) | (go_at_call 7; refine (one_ref _ _ _).mono ?_; rintro e w' ⟨rfl, rfl⟩))
  go_wp2
  go_ret
  exact ⟨rfl, pick7 (by assumption)⟩
set_option maxHeartbeats 1000000 in
theorem refs_un5 (b : Nat) (q : Option Addr) (x : Int) (h0 : w.cell? ⟨b, 0, none⟩ = some (.int .i64 5)) (h3 : w.cell? ⟨b, 3, none⟩ = some (.pointer q)) (hx : RefsTo w n0 n1 q x) : RefsTo w n0 n1 (some ⟨b, 0, none⟩) (oneV 5 x) := by
  intro W hb
  have c0 := cell_up hb h0
  have c3 := cell_up hb h3
  have lt := lt_up hb h0
  clear h0 h3
  go_enter Try.func17, Try.ntmps17
  go_wp2
  have s1 := (Below.refl W.heap.size W)
  go_region_held3 (fun w' => w'.cell? ⟨b, 0, none⟩ = some (.int .i64 5) ∧ w'.cell? ⟨b, 3, none⟩ = some (.pointer q) ∧ w'.cell? ⟨b, 3, none⟩ = some (.pointer q) ∧ w'.cell? ⟨b, 3, none⟩ = some (.pointer q) ∧ w'.cell? ⟨b, 3, none⟩ = some (.pointer q) ∧ Below w.heap.size w w' ∧ Below W.heap.size W w')
    ((first | exact ⟨c0, c3, c3, c3, c3, hb.drew, s1.drew⟩ | assumption | exact keep5 (by assumption) (by assumption)))
    (first | (go_at_call 17; refine (hx _ ?_).mono ?_; (exact pick6 (by assumption)); rintro e w' ⟨rfl, hb'⟩) | (go_at_call 7; refine (one_ref _ _ _).mono ?_; rintro e w' ⟨rfl, rfl⟩))
  go_wp2
  go_ret
  exact ⟨rfl, pick7 (by assumption)⟩
set_option maxHeartbeats 2000000 in
theorem refs_bin (b : Nat) (k : Int) (q r : Option Addr) (x y : Int) (wx : (Lit.int .i64 x).wf = true) (wy : (Lit.int .i64 y).wf = true) (k1 : 6 ≤ k) (k2 : k ≤ 16) (h0 : w.cell? ⟨b, 0, none⟩ = some (.int .i64 k)) (h3 : w.cell? ⟨b, 3, none⟩ = some (.pointer q)) (h4 : w.cell? ⟨b, 4, none⟩ = some (.pointer r))
    (hx : RefsTo w n0 n1 q x) (hy : RefsTo w n0 n1 r y) : RefsTo w n0 n1 (some ⟨b, 0, none⟩) (twoV k x y) := by
  intro W hb
  have c0 := cell_up hb h0
  have c3 := cell_up hb h3
  have c4 := cell_up hb h4
  have lt := lt_up hb h0
  clear h0 h3 h4
  go_enter Try.func17, Try.ntmps17
  go_wp2
  have s1 := (Below.refl W.heap.size W)
  go_region_held3 (fun w' => w'.cell? ⟨b, 0, none⟩ = some (.int .i64 k) ∧ w'.cell? ⟨b, 3, none⟩ = some (.pointer q) ∧ w'.cell? ⟨b, 4, none⟩ = some (.pointer r) ∧ w'.cell? ⟨b, 4, none⟩ = some (.pointer r) ∧ w'.cell? ⟨b, 4, none⟩ = some (.pointer r) ∧ Below w.heap.size w w' ∧ Below W.heap.size W w')
    ((first | exact ⟨c0, c3, c4, c4, c4, hb.drew, s1.drew⟩ | assumption | exact keep5 (by assumption) (by assumption)))
    (first | (go_at_call_of 17 q; refine (hx _ ?_).mono ?_; (exact pick6 (by assumption)); rintro e w' ⟨rfl, hb'⟩) | (go_at_call_of 17 r; refine (hy _ ?_).mono ?_; (exact pick6 (by assumption)); rintro e w' ⟨rfl, hb'⟩) | (go_at_call 9; refine (two_ref _ _ _ wx wy _).mono ?_; rintro e w' ⟨rfl, rfl⟩))
  all_goals
    go_wp2
    go_ret
    exact ⟨rfl, pick7 (by assumption)⟩
end
end Go.Proofs.Ytgglbjniclkkpaa

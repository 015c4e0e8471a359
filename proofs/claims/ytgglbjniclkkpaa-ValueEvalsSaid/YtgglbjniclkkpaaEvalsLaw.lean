/-
  THE STATEMENT ValueEvals: the walk of the law over the contracts of its callees; for every input, no condition.
-/
import Derived.Test.YtgglbjniclkkpaaRows
import Derived.Test.YtgglbjniclkkpaaEvals
import Derived.Test.YtgglbjniclkkpaaEvenPlain
import Derived.ProofKit
import Derived.OpenShut
import Derived.Laws.EntriesVeiled
import Derived.Deep.Cut
import Derived.Handy
namespace Go.Proofs.Ytgglbjniclkkpaa.valueEvals
open Go.ChangeShapes Go.WideShapes Go.ChangeAt Go.RowKit Go.Maps Go.WideMaps Go.WideElems Go.ChangeMaps

theorem own : ownKnob Try.prog.godebug = none := by kernel_rfl

/-! ### plain -/
theorem u64_bd (n : Int) : 0 ≤ IntKind.u64.wrap n ∧ IntKind.u64.wrap n ≤ 18446744073709551615 := by rw [IntKind.wrap_u64]; omega
theorem wf_of {a : Int} (h : -9223372036854775808 ≤ a ∧ a ≤ 9223372036854775807) : (Lit.int .i64 a).wf = true := by
  simpa [Lit.wf, IntKind.min, IntKind.max, IntKind.signed, IntKind.bits] using h
theorem tru_wf (p : Bool) : (Lit.int .i64 (tru p)).wf = true := by cases p <;> decide
theorem two_wf (k x y : Int) (wx : (Lit.int .i64 x).wf = true) : (Lit.int .i64 (twoV k x y)).wf = true := by
  unfold twoV
  repeat' split
  · exact wrap64_wf _
  · exact wrap64_wf _
  · exact wrap64_wf _
  · unfold divV; split
    · decide
    · exact wrap64_wf _
  · unfold modV; split
    · decide
    · exact wf_of (tmod_bd (wf_bd wx))
  all_goals first | exact tru_wf _ | decide
theorem one_wf (k x : Int) : (Lit.int .i64 (oneV k x)).wf = true := by
  unfold oneV
  repeat' split
  · exact wrap64_wf _
  · exact tru_wf _
  · decide

/-- A store into a map literal's map, at the operation. -/
theorem wpList_insert_own {H : Type} {P : Program} (w : World) {ops : Array Oper} {rest : List Oper} {o : Oper} {a : Act} {Q : Exit → Act → World → Prop}
    (hg : o.guard = none) (m x v : Operand) (t : TypeId) (hop : o.op = Op.insert t m x v)
    (k e : TypeId) (K : Keyed P k) (ht : P.underlying t = some (.map k e)) (R : Value → Option (DataW H × List MemPlace)) (b n : Nat) (D : DataW H)
    (hm : a.eval m = .map (some b)) (hown : w.ownsMap P k R b n D) (hn : n < maxLen) (key val : Value) (kl : Lit) (hx : a.eval x = key) (hv : a.eval v = val) (hkey : keyOf P k key = some kl)
    (d : DataW H) (ps : List MemPlace) (hval : R val = some (d, ps))
    (hK : ∀ w', w'.ownsMap P k R b (n + 1) (D.put kl d) → w.grownBy w' (some b) → wpList P ops Q rest (a.put o.dst undef) w') :
    wpList P ops Q (o :: rest) a w := by
  refine wpList_plain hg fun K' hK' => ?_
  obtain ⟨w', hrun, r1, r2⟩ := hown.update K ht hn hkey hval
  unfold Oper.wp
  simp [execOp, hop, hm, hx, hv, hrun, Result.andThen]
  exact hK' _ _ (hK w' r1 r2)

theorem zero2 (w : World) : (zeroValue 2).run Try.prog w = .ok (.int .i64 0) w := by kernel_rfl
/-- What a map of the call's own gives, in every later world. -/
theorem looks_of {w W : World} {n : Nat} {D : DataW Unit} {s : ByteArray} {c : Int} (o : w.ownsMap Try.prog 9 (plainElem Try.prog 2) n 2 D) (hb : Below w.heap.size w W) (hs : s.size ≤ maxLen)
    (hD : D.atKey (.string s.data.toList) (.lit (.int .i64 0)) = .lit (.int .i64 c)) : Looks W n s c := by
  intro W' hb'
  have hlt := o.lt
  have hbb := below_up hb hb'
  obtain ⟨es, clock, h1, F, h2, h3⟩ := o
  have o' : W'.ownsMap Try.prog 9 (plainElem Try.prog 2) n 2 D := ⟨es, clock, (hbb.block n hlt).trans h1, F, h2, h3⟩
  obtain ⟨c', hrun, hat, _⟩ := o'.lookup_int (string_keyed Try.underlying9) Try.underlying30 Try.underlying2 (zero2 W') (keyOf_string_mk Try.underlying9 hs)
  rw [hD] at hat
  have : c' = c := by simpa using hat.symm
  rw [← this]
  exact hrun
theorem evals_un (w : World) (m0 m1 : Addr) (b : Nat) (k : Int) (hk : k = 4 ∨ k = 5) (q : Option Addr) (x : Int) (h0 : w.cell? ⟨b, 0, none⟩ = some (.int .i64 k)) (h3 : w.cell? ⟨b, 3, none⟩ = some (.pointer q)) (hx : EvalsTo w m0 m1 q x) : EvalsTo w m0 m1 (some ⟨b, 0, none⟩) (oneV k x) := by
  rcases hk with rfl | rfl
  · exact evals_un4 w m0 m1 b q x h0 h3 hx
  · exact evals_un5 w m0 m1 b q x h0 h3 hx
theorem refs_un (w : World) (n0 n1 : Nat) (b : Nat) (k : Int) (hk : k = 4 ∨ k = 5) (q : Option Addr) (x : Int) (h0 : w.cell? ⟨b, 0, none⟩ = some (.int .i64 k)) (h3 : w.cell? ⟨b, 3, none⟩ = some (.pointer q)) (hx : RefsTo w n0 n1 q x) : RefsTo w n0 n1 (some ⟨b, 0, none⟩) (oneV k x) := by
  rcases hk with rfl | rfl
  · exact refs_un4 w n0 n1 b q x h0 h3 hx
  · exact refs_un5 w n0 n1 b q x h0 h3 hx

/-- What lies in memory when both sides are asked. -/
structure Laid (Z : World) (N n0 n1 : Nat) (k op y : Int) : Prop where
  m0 : Z.cell? ⟨N, 0, none⟩ = some (.map (some n0))
  m1 : Z.cell? ⟨N + 1, 0, none⟩ = some (.map (some n1))
  e0 : Z.cell? ⟨N + 1 + 1, 0, none⟩ = some (.func (.func 14) #[] #[.pointer (some ⟨N, 0, none⟩)])
  e1 : Z.cell? ⟨N + 1 + 1, 1, none⟩ = some (.func (.func 15) #[] #[.pointer (some ⟨N + 1, 0, none⟩)])
  v0 : Z.cell? ⟨N + 1 + 1 + 1, 0, none⟩ = some (.int .i64 2)
  v2 : Z.cell? ⟨N + 1 + 1 + 1, 2, none⟩ = some (.string { data := #[97] })
  p0 : Z.cell? ⟨N + 1 + 1 + 1 + 1, 0, none⟩ = some (.int .i64 3)
  p2 : Z.cell? ⟨N + 1 + 1 + 1 + 1, 2, none⟩ = some (.string { data := #[98] })
  n0' : Z.cell? ⟨N + 1 + 1 + 1 + 1 + 1, 0, none⟩ = some (.int .i64 1)
  n1' : Z.cell? ⟨N + 1 + 1 + 1 + 1 + 1, 1, none⟩ = some (.int .i64 y)
  i0 : Z.cell? ⟨N + 1 + 1 + 1 + 1 + 1 + 1, 0, none⟩ = some (.int .i64 k)
  i3 : Z.cell? ⟨N + 1 + 1 + 1 + 1 + 1 + 1, 3, none⟩ = some (.pointer (some ⟨N + 1 + 1 + 1, 0, none⟩))
  i4 : Z.cell? ⟨N + 1 + 1 + 1 + 1 + 1 + 1, 4, none⟩ = some (.pointer (some ⟨N + 1 + 1 + 1 + 1, 0, none⟩))
  j0 : Z.cell? ⟨N + 1 + 1 + 1 + 1 + 1 + 1 + 1, 0, none⟩ = some (.int .i64 op)
  j3 : Z.cell? ⟨N + 1 + 1 + 1 + 1 + 1 + 1 + 1, 3, none⟩ = some (.pointer (some ⟨N + 1 + 1 + 1 + 1 + 1 + 1, 0, none⟩))
  l0 : Z.cell? ⟨N + 1 + 1 + 1 + 1 + 1 + 1 + 1 + 1, 0, none⟩ = some (.int .i64 k)
  l3 : Z.cell? ⟨N + 1 + 1 + 1 + 1 + 1 + 1 + 1 + 1, 3, none⟩ = some (.pointer (some ⟨N + 1 + 1 + 1 + 1 + 1 + 1 + 1, 0, none⟩))
  l4 : Z.cell? ⟨N + 1 + 1 + 1 + 1 + 1 + 1 + 1 + 1, 4, none⟩ = some (.pointer (some ⟨N + 1 + 1 + 1 + 1 + 1, 0, none⟩))
  f0 : Z.cell? ⟨N + 1 + 1 + 1 + 1 + 1 + 1 + 1 + 1 + 1, 0, none⟩ = some (.int .i64 op)
  f3 : Z.cell? ⟨N + 1 + 1 + 1 + 1 + 1 + 1 + 1 + 1 + 1, 3, none⟩ = some (.pointer (some ⟨N + 1 + 1 + 1 + 1 + 1 + 1 + 1 + 1, 0, none⟩))

/-- What the expression comes to. -/
def valE (k op y a x : Int) : Int := twoV k (oneV op (twoV k a x)) y
/-- Both sides, at both expressions. -/
structure Both (Z : World) (N n0 n1 : Nat) (v u : Int) : Prop where
  ev : EvalsTo Z ⟨N, 0, none⟩ ⟨N + 1, 0, none⟩ (some ⟨N + 1 + 1 + 1 + 1 + 1 + 1 + 1 + 1, 0, none⟩) v
  eu : EvalsTo Z ⟨N, 0, none⟩ ⟨N + 1, 0, none⟩ (some ⟨N + 1 + 1 + 1 + 1 + 1 + 1 + 1 + 1 + 1, 0, none⟩) u
  rv : RefsTo Z n0 n1 (some ⟨N + 1 + 1 + 1 + 1 + 1 + 1 + 1 + 1, 0, none⟩) v
  ru : RefsTo Z n0 n1 (some ⟨N + 1 + 1 + 1 + 1 + 1 + 1 + 1 + 1 + 1, 0, none⟩) u
theorem both {Z : World} {N n0 n1 : Nat} {k op y a x : Int} (L : Laid Z N n0 n1 k op y) (k1 : 6 ≤ k) (k2 : k ≤ 16) (ho : op = 4 ∨ op = 5) (wy : (Lit.int .i64 y).wf = true) (wa : (Lit.int .i64 a).wf = true) (wx : (Lit.int .i64 x).wf = true)
    (hn : Looks Z n0 { data := #[97] } a) (hw : Looks Z n1 { data := #[98] } x) : Both Z N n0 n1 (valE k op y a x) (oneV op (valE k op y a x)) := by
  have E1 := evals_var Z ⟨N + 1, 0, none⟩ N 0 n0 _ _ a L.v0 L.v2 L.m0 hn
  have E2 := evals_pre Z ⟨N, 0, none⟩ (N + 1) 0 n1 _ _ x L.p0 L.p2 L.m1 hw
  have E3 := evals_num Z ⟨N, 0, none⟩ ⟨N + 1, 0, none⟩ _ y L.n0' L.n1'
  have E4 := evals_bin Z _ _ _ k _ _ _ _ k1 k2 L.i0 L.i3 L.i4 E1 E2
  have E5 := evals_un Z _ _ _ op ho _ _ L.j0 L.j3 E4
  have E6 := evals_bin Z _ _ _ k _ _ _ _ k1 k2 L.l0 L.l3 L.l4 E5 E3
  have E7 := evals_un Z _ _ _ op ho _ _ L.f0 L.f3 E6
  have R1 := refs_var Z n0 n1 _ _ a L.v0 L.v2 hn
  have R2 := refs_pre Z n0 n1 _ _ x L.p0 L.p2 hw
  have R3 := refs_num Z n0 n1 _ y L.n0' L.n1'
  have R4 := refs_bin Z n0 n1 _ k _ _ _ _ wa wx k1 k2 L.i0 L.i3 L.i4 R1 R2
  have R5 := refs_un Z n0 n1 _ op ho _ _ L.j0 L.j3 R4
  have R6 := refs_bin Z n0 n1 _ k _ _ _ _ (one_wf _ _) wy k1 k2 L.l0 L.l3 L.l4 R5 R3
  have R7 := refs_un Z n0 n1 _ op ho _ _ L.f0 L.f3 R6
  exact ⟨E6, E7, R6, R7⟩
theorem _root_.Go.Proofs.Ytgglbjniclkkpaa.EvalsTo.run {w : World} {m0 m1 : Addr} {p : Option Addr} {v : Int} (h : EvalsTo w m0 m1 p v) (W : World) (hb : Below w.heap.size w W) : Calls Try.prog 16 #[.pointer p, .agg #[.func (.func 14) #[] #[.pointer (some m0)], .func (.func 15) #[] #[.pointer (some m1)]]] W fun e W' => e = .returned (.int .i64 v) ∧ Below W.heap.size W W' := h W hb
theorem _root_.Go.Proofs.Ytgglbjniclkkpaa.RefsTo.run {w : World} {n0 n1 : Nat} {p : Option Addr} {v : Int} (h : RefsTo w n0 n1 p v) (W : World) (hb : Below w.heap.size w W) : Calls Try.prog 17 #[.pointer p, .map (some n0), .map (some n1)] W fun e W' => e = .returned (.int .i64 v) ∧ Below W.heap.size W W' := h W hb
theorem keepZ {Z W1 W2 : World} {b o b' o' d p d' p' : Nat} {v v' u u' : Value}
    (h : W1.cell? ⟨b, o, none⟩ = some v ∧ W1.cell? ⟨b', o', none⟩ = some v' ∧ W1.cell? ⟨d, p, none⟩ = some u ∧ W1.cell? ⟨d', p', none⟩ = some u' ∧ Below Z.heap.size Z W1)
    (hb : Below W1.heap.size W1 W2) : W2.cell? ⟨b, o, none⟩ = some v ∧ W2.cell? ⟨b', o', none⟩ = some v' ∧ W2.cell? ⟨d, p, none⟩ = some u ∧ W2.cell? ⟨d', p', none⟩ = some u' ∧ Below Z.heap.size Z W2 :=
  ⟨cell_up hb h.1, cell_up hb h.2.1, cell_up hb h.2.2.1, cell_up hb h.2.2.2.1, below_up h.2.2.2.2 hb⟩
theorem pickZ {A B C D E : Prop} (h : A ∧ B ∧ C ∧ D ∧ E) : E := h.2.2.2.2

set_option maxRecDepth 100000 in
set_option maxHeartbeats 4000000 in
theorem walk (a0 a1 a2 a3 a4 a5 : Int) (_w0 : (Lit.int .i64 a0).wf = true) (_w1 : (Lit.int .i64 a1).wf = true) (w2 : (Lit.int .i64 a2).wf = true) (w3 : (Lit.int .i64 a3).wf = true) (w4 : (Lit.int .i64 a4).wf = true) (w5 : (Lit.int .i64 a5).wf = true) (w : World) :
    Calls Try.prog 5 #[.int .i64 a0, .int .i64 a1, .int .i64 a2, .int .i64 a3, .int .i64 a4, .int .i64 a5] w fun e w' => e = .returned (.bool true) ∧ Below w.heap.size w w' := by
  have hmm := @run_makeMap Try.prog
  have b0 := (u64_bd a0).1
  have b1 := (u64_bd a1).1
  go_enter Try.func5, Try.ntmps5
  go_upto_region 3 with (first | (((with_reducible show wpList _ _ _ (Oper.mk none (.insert 30 (.tmp 31) _ (.tmp 32)) _ _ _ _ :: _) _ _)); refine wpList_insert_own (H := Unit) _ rfl (.tmp 31) (.const (.string { data := #[97] })) (.tmp 32) 30 rfl 9 2 (string_keyed Try.underlying9) Try.underlying30 (plainElem Try.prog 2) w.heap.size 0 (.map []) rfl (World.ownsMap_made _ _ _ _) (by unfold maxLen; omega) _ _ (.string [97]) rfl rfl (keyOf_string_mk (s := { data := #[97] }) Try.underlying9 (by decide)) (.lit (.int .i64 a4)) [] (plainElem_int Try.underlying2 w4) ?_; intro W1 o1' g1'; have o1 := Lib.hid o1'; have g1 := Lib.hid g1'; clear o1' g1') | (((with_reducible show wpList _ _ _ (Oper.mk none (.insert 30 (.tmp 31) _ (.tmp 33)) _ _ _ _ :: _) _ _)); refine wpList_insert_own (H := Unit) _ rfl (.tmp 31) (.const (.string { data := #[98] })) (.tmp 33) 30 rfl 9 2 (string_keyed Try.underlying9) Try.underlying30 (plainElem Try.prog 2) w.heap.size 1 (DataW.put (DataW.map []) (.string [97]) (.lit (.int .i64 a4))) rfl o1.out (by unfold maxLen; omega) _ _ (.string [98]) rfl rfl (keyOf_string_mk (s := { data := #[98] }) Try.underlying9 (by decide)) (.lit (.int .i64 a5)) [] (plainElem_int Try.underlying2 w5) ?_; intro W2 o2' g2'; have o2 := Lib.hid o2'; have g2 := Lib.hid g2'; clear o2' g2') | (((with_reducible show wpList _ _ _ (Oper.mk none (.insert 30 (.tmp 35) _ (.tmp 36)) _ _ _ _ :: _) _ _)); refine wpList_insert_own (H := Unit) _ rfl (.tmp 35) (.const (.string { data := #[97] })) (.tmp 36) 30 rfl 9 2 (string_keyed Try.underlying9) Try.underlying30 (plainElem Try.prog 2) W2.heap.size 0 (.map []) rfl (World.ownsMap_made _ _ _ _) (by unfold maxLen; omega) _ _ (.string [97]) rfl rfl (keyOf_string_mk (s := { data := #[97] }) Try.underlying9 (by decide)) (.lit (.int .i64 a5)) [] (plainElem_int Try.underlying2 w5) ?_; intro W3 o3' g3'; have o3 := Lib.hid o3'; have g3 := Lib.hid g3'; clear o3' g3') | (((with_reducible show wpList _ _ _ (Oper.mk none (.insert 30 (.tmp 35) _ (.tmp 37)) _ _ _ _ :: _) _ _)); refine wpList_insert_own (H := Unit) _ rfl (.tmp 35) (.const (.string { data := #[98] })) (.tmp 37) 30 rfl 9 2 (string_keyed Try.underlying9) Try.underlying30 (plainElem Try.prog 2) W2.heap.size 1 (DataW.put (DataW.map []) (.string [97]) (.lit (.int .i64 a5))) rfl o3.out (by unfold maxLen; omega) _ _ (.string [98]) rfl rfl (keyOf_string_mk (s := { data := #[98] }) Try.underlying9 (by decide)) (.lit (.int .i64 a2)) [] (plainElem_int Try.underlying2 w2) ?_; intro W4 o4' g4'; have o4 := Lib.hid o4'; have g4 := Lib.hid g4'; clear o4' g4'))
  go_wp2_with fail
  generalize hZ : World.alloc _ _ = Z
  have L : Laid Z W4.heap.size w.heap.size W2.heap.size (6 + IntKind.u64.wrap a0 % 11) (4 + IntKind.u64.wrap a1 % 2) a3 := by
    constructor
    all_goals (clear hmm; subst hZ; first | (go_cell; done) | (simp [go_sem]; done))
  have q1 : Below w.heap.size w W2 := (((Below.refl _ _).alloc (Nat.le_refl _) _).grown g1.out (by simp) (fun k e => by cases e; exact Nat.le_refl _)).grown g2.out (by have := g1.out.size; simp at this; omega) (fun k e => by cases e; exact Nat.le_refl _)
  have q2 : Below W2.heap.size W2 W4 := (((Below.refl _ _).alloc (Nat.le_refl _) _).grown g3.out (by simp) (fun k e => by cases e; exact Nat.le_refl _)).grown g4.out (by have := g3.out.size; simp at this; omega) (fun k e => by cases e; exact Nat.le_refl _)
  have q3 : Below W4.heap.size W4 Z := by
    rw [← hZ]
    repeat' (first | exact Below.refl _ _ | refine Below.alloc ?_ (by simp; try omega) _)
  have B := both (a := a4) (x := a2) L (by omega) (by omega) (by omega) w3 w4 w2 (looks_of o2.out (below_up q2 q3) (by decide) rfl) (looks_of o4.out q3 (by decide) rfl)
  have hbw : Below w.heap.size w Z := below_up (below_up q1 q2) q3
  have BV := Lib.hid B.ev
  have BU := Lib.hid B.eu
  have RV := Lib.hid B.rv
  have RU := Lib.hid B.ru
  have NV := Lib.hid (evals_nil Z ⟨W4.heap.size, 0, none⟩ ⟨W4.heap.size + 1, 0, none⟩)
  have c0 := L.m0
  have c1 := L.m1
  have c2 := L.e0
  have c3 := L.e1
  have HBW := Lib.hid hbw
  clear hZ L q1 q2 q3 B o1 o2 o3 o4 g1 g2 g3 g4 hbw hmm b0 b1 w2 w3 w4 w5 _w0 _w1
  go_region_held3 (fun w' => w'.cell? ⟨W4.heap.size, 0, none⟩ = some (.map (some w.heap.size)) ∧ w'.cell? ⟨W4.heap.size + 1, 0, none⟩ = some (.map (some W2.heap.size)) ∧ w'.cell? ⟨W4.heap.size + 1 + 1, 0, none⟩ = some (.func (.func 14) #[] #[.pointer (some ⟨W4.heap.size, 0, none⟩)]) ∧ w'.cell? ⟨W4.heap.size + 1 + 1, 1, none⟩ = some (.func (.func 15) #[] #[.pointer (some ⟨W4.heap.size + 1, 0, none⟩)]) ∧ Below Z.heap.size Z w')
    ((first | exact ⟨c0, c1, c2, c3, (Below.refl _ _).drew⟩ | assumption | exact keepZ (by assumption) (by assumption)))
    (first | (go_at_call 16; first | ((with_reducible refine (BV.out.run _ ?_).mono ?_); (exact pickZ (by assumption)); rintro e w' ⟨rfl, hb'⟩) | ((with_reducible refine (BU.out.run _ ?_).mono ?_); (exact pickZ (by assumption)); rintro e w' ⟨rfl, hb'⟩) | ((with_reducible refine (NV.out.run _ ?_).mono ?_); (exact pickZ (by assumption)); rintro e w' ⟨rfl, hb'⟩)) | (go_at_call 17; first | ((with_reducible refine (RV.out.run _ ?_).mono ?_); (exact pickZ (by assumption)); rintro e w' ⟨rfl, hb'⟩) | ((with_reducible refine (RU.out.run _ ?_).mono ?_); (exact pickZ (by assumption)); rintro e w' ⟨rfl, hb'⟩)))
  all_goals
    go_wp2
    go_ret
    exact ⟨rfl, below_up HBW.out (pickZ (by assumption))⟩

/-! ### THE ROW's STEP: WRITTEN OUT: LEAVE IT -/
set_option maxRecDepth 100000 in
theorem lifted (os : Os) (started : os.Started) (H : Type) (enc : TypeId × Value → H) :
    ReturnsInHanded {} Try.checked os 5 .any (Rows.valueEvalsSpec.pre6 enc Try.prog Try.f5 Rows.valueEvalsRow.domain false) (Rows.valueEvalsSpec.post enc Try.prog Try.f5 false true false false) := by
  refine returnsInHanded_of_change (C := Try.checked) own started (by kernel_rfl) Try.func5
    (ChangeSpec.witness6 (enc := enc) (C := Try.checked) false ⟨#[], #[.int .i64 0, .int .i64 0, .int .i64 0, .int .i64 0, .int .i64 0, .int .i64 0], []⟩ 8 (by kernel_rfl) (by kernel_rfl) (by kernel_rfl) (by kernel_rfl)) ?_
  intro W base args ds gs before hval0 hW hcnd _
  have hval : ∀ (j : Nat) t v, Try.f5.params[j]? = some t → args[j]? = some v → Value.okWide Try.prog W .any base t v := hval0
  have hW' := hW
  obtain ⟨p, q, hA0, hV, rfl, hfz, hnd⟩ := hW
  have hA : DataW.TrodAll enc Try.prog W 0 (fun _ => true) true Try.f5.params.toList args.toList ds p := hA0
  rw [Try.params5] at hA hval
  obtain ⟨v0, vs0, d0, ds0, p0, q0, hargs, rfl, rfl, h0, r0⟩ := trodAll_cons hA
  obtain ⟨v1, vs1, d1, ds1, p1, q1, rfl, rfl, rfl, h1, r1⟩ := trodAll_cons r0
  obtain ⟨v2, vs2, d2, ds2, p2, q2, rfl, rfl, rfl, h2, r2⟩ := trodAll_cons r1
  obtain ⟨v3, vs3, d3, ds3, p3, q3, rfl, rfl, rfl, h3, r3⟩ := trodAll_cons r2
  obtain ⟨v4, vs4, d4, ds4, p4, q4, rfl, rfl, rfl, h4, r4⟩ := trodAll_cons r3
  obtain ⟨v5, vs5, d5, ds5, p5, q5, rfl, rfl, rfl, h5, r5⟩ := trodAll_cons r4
  obtain ⟨rfl, rfl, rfl⟩ := trodAll_nil r5
  obtain rfl : args = #[v0, v1, v2, v3, v4, v5] := by cases args; simp_all
  obtain ⟨rfl, rfl⟩ := trodVars_none hV
  obtain ⟨a0, rfl, rfl, rfl, w0⟩ := open_int Try.underlying3 (hval 0 3 v0 rfl rfl) h0
  obtain ⟨a1, rfl, rfl, rfl, w1⟩ := open_int Try.underlying3 (hval 1 3 v1 rfl rfl) h1
  obtain ⟨a2, rfl, rfl, rfl, w2⟩ := open_int Try.underlying2 (hval 2 2 v2 rfl rfl) h2
  obtain ⟨a3, rfl, rfl, rfl, w3⟩ := open_int Try.underlying2 (hval 3 2 v3 rfl rfl) h3
  obtain ⟨a4, rfl, rfl, rfl, w4⟩ := open_int Try.underlying2 (hval 4 2 v4 rfl rfl) h4
  obtain ⟨a5, rfl, rfl, rfl, w5⟩ := open_int Try.underlying2 (hval 5 2 v5 rfl rfl) h5
  clear hA0 hval0
  simp only [List.append_nil] at hW'
  refine (walk a0 a1 a2 a3 a4 a5 w0 w1 w2 w3 w4 w5 W).mono fun e W' ⟨he, hg⟩ => ?_
  subst he
  exact ⟨_, rfl, _, _, _, [], [], [], hW', trodAll_mk1 (shut_bool Try.underlying4 _), (trodAll_cons_mk (shut_int Try.underlying3 w0) (trodAll_cons_mk (shut_int Try.underlying3 w1) (trodAll_cons_mk (shut_int Try.underlying2 w2) (trodAll_cons_mk (shut_int Try.underlying2 w3) (trodAll_cons_mk (shut_int Try.underlying2 w4) (trodAll_cons_mk (shut_int Try.underlying2 w5) trodAll_mk0)))))), rfl, hg.frame _, fun h => by cases h⟩

theorem over : Rows.valueEvalsRow.holds Try.pinned (OpenSpec.ofChange Rows.valueEvalsSpec) :=
  OpenClaim.holds_of_wide 5 Try.f5 rfl rfl rfl rfl rfl rfl rfl ⟨rfl, rfl, rfl, rfl, rfl⟩ rfl rfl rfl rfl rfl (by kernel_rfl) Try.func5 (by kernel_rfl)
    (of_decide_eq_true (by kernel_rfl)) (by unfold Func.isWrapper; first | (rw [if_pos (by decide +kernel)]; kernel_rfl) | (rw [if_neg (by decide +kernel)]; exact ⟨rfl, rfl⟩))
    (fun os started H enc _ => lifted os started H enc)

/-- ████ THE STATEMENT ████ -/
theorem proved : Rows.ValueEvalsSaid :=
  over
end Go.Proofs.Ytgglbjniclkkpaa.valueEvals

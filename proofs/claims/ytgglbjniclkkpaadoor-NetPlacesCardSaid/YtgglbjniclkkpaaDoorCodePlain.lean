/-
  PLAIN: code read from bytes; no program in sight.
-/
import Derived.Test.YtgglbjniclkkpaaDoorReadPlain
namespace Go.Proofs.YtgglbjniclkkpaaDoor
open Go.RowKit

/-- Where reading stands: bad makes it none; good goes on with v. -/
structure Sofar {β : Type} (b : Bool) (R v : Option β) : Prop where
  good : b = false → R = v
  bad : b = true → R = none
theorem Sofar.stage {α β : Type} {a b : Bool} {R : Option β} {o : Option α} {k : α → Option β} {y : α} (p : Sofar a R (o.bind k)) (f1 : b = false → a = false ∧ o = some y) (f2 : b = true → a = true ∨ o = none) : Sofar b R (k y) := by
  constructor
  · intro e
    obtain ⟨h1, h2⟩ := f1 e
    rw [p.good h1, h2]; rfl
  · intro e
    rcases f2 e with h | h
    · exact p.bad h
    · cases a
      · rw [p.good rfl, h]; rfl
      · exact p.bad rfl
theorem Sofar.to {β : Type} {b : Bool} {R v v' : Option β} (p : Sofar b R v) (h : v = v') : Sofar b R v' := h ▸ p
theorem Sofar.badTo {β : Type} {R v v' : Option β} (p : Sofar true R v) : Sofar true R v' := ⟨(fun e => by cases e), p.bad⟩
theorem bind_assoc' {α β γ : Type} (o : Option α) (f : α → Option β) (g : β → Option γ) : (o.bind f).bind g = o.bind fun x => (f x).bind g := by cases o <;> rfl

/-- The m-th of what a step asks. -/
def setArg (s : Stp) (m : Nat) (v : Int) : Stp := if m = 0 then { s with a := v } else if m = 1 then { s with b := v } else { s with e := v }
/-- So many of what a step asks, from the m-th on. -/
def argsR : Nat → Nat → Stp → List UInt8 → Option (Stp × List UInt8)
  | 0, _, s, t => some (s, t)
  | k + 1, m, s, t => (smallV t).bind fun x => argsR k (m + 1) (setArg s m (x.1 : Int)) x.2
/-- A step's code, place, and number. -/
def headR (t : List UInt8) : Option (Stp × List UInt8) :=
  (smallV t).bind fun x => (smallV x.2).bind fun y => if x.1 = 1 then (smallV y.2).bind fun z => some (⟨x.1, y.1, z.1, 0, 0⟩, z.2) else some (⟨x.1, y.1, 0, 0, 0⟩, y.2)
def stepR (t : List UInt8) : Option (Stp × List UInt8) := (headR t).bind fun x => argsR (arityV x.1.c) 0 x.1 x.2
def codeR : Nat → List UInt8 → Option (List Stp × List UInt8)
  | 0, t => some ([], t)
  | k + 1, t => (stepR t).bind fun x => (codeR k x.2).bind fun y => some (x.1 :: y.1, y.2)
/-- What is still to come of code. -/
def restC {β : Type} (FIN : List Stp → List UInt8 → Option β) (m : Nat) (cs : List Stp) (t : List UInt8) : Option β := (codeR m t).bind fun y => FIN (cs ++ y.1) y.2
section
variable {β : Type} (FIN : List Stp → List UInt8 → Option β)
theorem restC_zero (cs : List Stp) (t : List UInt8) : restC FIN 0 cs t = FIN cs t := by simp [restC, codeR]
theorem restC_succ (m : Nat) (cs : List Stp) (t : List UInt8) : restC FIN (m + 1) cs t = (stepR t).bind fun x => restC FIN m (cs ++ [x.1]) x.2 := by
  unfold restC
  rw [codeR, bind_assoc']
  congr 1
  funext x
  rw [bind_assoc']
  congr 1
  funext y
  simp
end
theorem step_go {β : Type} (t : List UInt8) (k : Stp × List UInt8 → Option β) :
    (stepR t).bind k = (smallV t).bind fun x => (smallV x.2).bind fun y => (if x.1 = 1 then (smallV y.2).bind fun z => some ((⟨x.1, y.1, z.1, 0, 0⟩ : Stp), z.2) else some ((⟨x.1, y.1, 0, 0, 0⟩ : Stp), y.2)).bind fun x => (argsR (arityV x.1.c) 0 x.1 x.2).bind k := by
  unfold stepR headR
  rw [bind_assoc', bind_assoc']
  congr 1
  funext x
  rw [bind_assoc']
/-- All bytes are read. -/
def finR (N : NetP) (t : List UInt8) : Option NetP := if t = [] then some N else none
/-- Code, of what stands behind the head. -/
def imageR (s : List UInt8) : Option NetP :=
  (smallV s).bind fun a => (listR a.2).bind fun b => (listS b.2).bind fun c => (listS c.2).bind fun d => (listS d.2).bind fun e => (listR e.2).bind fun f => (smallV f.2).bind fun g =>
    restC (fun cs t => finR ⟨a.1, b.1, c.1, d.1, e.1, f.1, cs⟩ t) g.1 [] g.2
def headB (s : List UInt8) : Bool := s.take 4 == [67, 76, 80, 49]
/-- Code, of bytes. -/
def readV (s : List UInt8) : Option NetP := if headB s = true then imageR (s.drop 4) else none

/-! ### how much it is -/
theorem manyV_len : ∀ (k : Nat) {s r : List UInt8} {l : List Int}, manyV k s = some (l, r) → l.length = k ∧ k + r.length ≤ s.length
  | 0, s, r, l, h => by simp only [manyV, Option.some.injEq, Prod.mk.injEq] at h; obtain ⟨rfl, rfl⟩ := h; simp
  | k + 1, s, r, l, h => by
    unfold manyV at h
    split at h
    · rename_i n r1 h1
      split at h
      · rename_i l2 r2 h2
        simp only [Option.some.injEq, Prod.mk.injEq] at h
        obtain ⟨rfl, rfl⟩ := h
        have a := (getV_ok h1).2
        have b := manyV_len k h2
        simp only [List.length_cons]
        omega
      · cases h
    · cases h
theorem listR_len {s r : List UInt8} {l : List Int} (h : listR s = some (l, r)) : l.length + r.length ≤ s.length := by
  unfold listR at h
  split at h
  · rename_i k r1 h1
    have a := (smallV_ok h1).2
    have b := manyV_len k h
    omega
  · cases h
theorem listS_len {s r : List UInt8} {l : List Int} (h : listS s = some (l, r)) : l.length + r.length ≤ s.length := by
  unfold listS at h
  split at h
  · rename_i k r1 h1
    have a := (smallV_ok h1).2
    rw [manySV_eq] at h
    split at h
    · rename_i l2 r2 h2
      split at h
      · simp only [Option.some.injEq, Prod.mk.injEq] at h
        obtain ⟨rfl, rfl⟩ := h
        have b := manyV_len k h2
        omega
      · cases h
    · cases h
  · cases h
theorem argsR_len : ∀ (k m : Nat) {s s' : Stp} {t r : List UInt8}, argsR k m s t = some (s', r) → r.length ≤ t.length
  | 0, m, s, s', t, r, h => by simp only [argsR, Option.some.injEq, Prod.mk.injEq] at h; obtain ⟨rfl, rfl⟩ := h; omega
  | k + 1, m, s, s', t, r, h => by
    rw [argsR] at h
    obtain ⟨x, h1, h2⟩ := Option.bind_eq_some_iff.1 h
    have a := (smallV_ok (show smallV t = some (x.1, x.2) from h1)).2
    have b := argsR_len k (m + 1) h2
    omega
theorem stepR_len {s' : Stp} {t r : List UInt8} (h : stepR t = some (s', r)) : 1 + r.length ≤ t.length := by
  unfold stepR headR at h
  obtain ⟨x, h1, h2⟩ := Option.bind_eq_some_iff.1 h
  obtain ⟨a, h3, h4⟩ := Option.bind_eq_some_iff.1 h1
  obtain ⟨b, h5, h6⟩ := Option.bind_eq_some_iff.1 h4
  have l1 := (smallV_ok (show smallV t = some (a.1, a.2) from h3)).2
  have l2 := (smallV_ok (show smallV a.2 = some (b.1, b.2) from h5)).2
  have l3 := argsR_len _ _ h2
  split at h6
  · obtain ⟨c, h7, h8⟩ := Option.bind_eq_some_iff.1 h6
    have l4 := (smallV_ok (show smallV b.2 = some (c.1, c.2) from h7)).2
    cases h8
    simp only [] at l3
    omega
  · cases h6
    simp only [] at l3
    omega
theorem codeR_len : ∀ (k : Nat) {t r : List UInt8} {cs : List Stp}, codeR k t = some (cs, r) → cs.length = k ∧ k + r.length ≤ t.length
  | 0, t, r, cs, h => by simp only [codeR, Option.some.injEq, Prod.mk.injEq] at h; obtain ⟨rfl, rfl⟩ := h; simp
  | k + 1, t, r, cs, h => by
    rw [codeR] at h
    obtain ⟨x, h1, h2⟩ := Option.bind_eq_some_iff.1 h
    obtain ⟨y, h3, h4⟩ := Option.bind_eq_some_iff.1 h2
    have a := stepR_len (show stepR t = some (x.1, x.2) from h1)
    have b := codeR_len k (show codeR k x.2 = some (y.1, y.2) from h3)
    cases h4
    simp only [List.length_cons]
    omega
theorem imageR_len {s : List UInt8} {N : NetP} (h : imageR s = some N) : 0 ≤ N.places ∧ N.places ≤ 4000 ∧ N.first.length + N.ins.length + N.outs.length + N.keeps.length + N.nums.length + N.code.length ≤ s.length := by
  unfold imageR at h
  obtain ⟨a, h1, h⟩ := Option.bind_eq_some_iff.1 h
  obtain ⟨b, h2, h⟩ := Option.bind_eq_some_iff.1 h
  obtain ⟨c, h3, h⟩ := Option.bind_eq_some_iff.1 h
  obtain ⟨d, h4, h⟩ := Option.bind_eq_some_iff.1 h
  obtain ⟨e, h5, h⟩ := Option.bind_eq_some_iff.1 h
  obtain ⟨f, h6, h⟩ := Option.bind_eq_some_iff.1 h
  obtain ⟨g, h7, h⟩ := Option.bind_eq_some_iff.1 h
  unfold restC at h
  obtain ⟨y, h8, h⟩ := Option.bind_eq_some_iff.1 h
  have h : finR _ _ = some N := h
  unfold finR at h
  split at h
  · cases h
    have l1 := smallV_ok (show smallV s = some (a.1, a.2) from h1)
    have l2 := listR_len (show listR a.2 = some (b.1, b.2) from h2)
    have l3 := listS_len (show listS b.2 = some (c.1, c.2) from h3)
    have l4 := listS_len (show listS c.2 = some (d.1, d.2) from h4)
    have l5 := listS_len (show listS d.2 = some (e.1, e.2) from h5)
    have l6 := listR_len (show listR e.2 = some (f.1, f.2) from h6)
    have l7 := smallV_ok (show smallV f.2 = some (g.1, g.2) from h7)
    have l8 := codeR_len g.1 (show codeR g.1 g.2 = some (y.1, y.2) from h8)
    simp only [List.nil_append]
    omega
  · cases h
/-- No code. -/
def zeroN : NetP := ⟨0, [], [], [], [], [], []⟩
/-- What bytes are: what is wrong, and code. -/
def ansV (o : Option NetP) : (Int × Int) × NetP :=
  match o with
  | none => ((3, -1), zeroN)
  | some N => if judgeV N = (0, -1) then ((0, -1), N) else (judgeV N, zeroN)
end Go.Proofs.YtgglbjniclkkpaaDoor

/-
  PLAIN: what code tells in a tick; no program in sight.
-/
import Derived.Test.YtgglbjniclkkpaaDoorNetPlain
import Derived.Test.YtgglbjniclkkpaaDoorPlain
namespace Go.Proofs.YtgglbjniclkkpaaDoor
open Go.RowKit

/-- What lies at a place. -/
def atV (V : List Int) (p : Int) : Int := V.getD p.toNat 0
/-- Inputs are put. -/
def insV (I : List Int) : List Int → Nat → List Int → List Int
  | [], _, V => V
  | p :: r, i, V => insV I r (i + 1) (V.set p.toNat (I.getD i 0))
/-- What a step makes. -/
def valV (nums V : List Int) (s : Stp) : Int :=
  if arityV s.c = 0 then atV nums s.a else if arityV s.c = 1 then (if s.c = 2 then atV V s.a else oneV s.c (atV V s.a)) else if arityV s.c = 2 then twoV s.c (atV V s.a) (atV V s.b) else pickV (atV V s.a) (atV V s.b) (atV V s.e)
def runV (nums : List Int) : List Stp → List Int → List Int
  | [], V => V
  | s :: r, V => runV nums r (V.set s.d.toNat (valV nums V s))
/-- What is not kept is 0. -/
def clrV : List Bool → Nat → List Int → List Int
  | [], _, V => V
  | b :: r, i, V => clrV r (i + 1) (if b = true then V else V.set i 0)
/-- What is kept. -/
def kpV : List Int → List Bool → List Bool
  | [], K => K
  | p :: r, K => kpV r (K.set p.toNat true)
def tickV (N : NetP) (K : List Bool) (I V : List Int) : List Int × List Int :=
  (N.outs.map (atV (runV N.nums N.code (insV I N.ins 0 V))), clrV K 0 (runV N.nums N.code (insV I N.ins 0 V)))
theorem insV_len (I : List Int) : ∀ (ps : List Int) (i : Nat) (V : List Int), (insV I ps i V).length = V.length
  | [], _, _ => rfl
  | p :: r, i, V => by rw [insV, insV_len I r]; simp
theorem runV_len (nums : List Int) : ∀ (cs : List Stp) (V : List Int), (runV nums cs V).length = V.length
  | [], _ => rfl
  | s :: r, V => by rw [runV, runV_len nums r]; simp
theorem clrV_len : ∀ (K : List Bool) (i : Nat) (V : List Int), (clrV K i V).length = V.length
  | [], _, _ => rfl
  | b :: r, i, V => by rw [clrV, clrV_len r]; split <;> simp
theorem kpV_len : ∀ (ps : List Int) (K : List Bool), (kpV ps K).length = K.length
  | [], _ => rfl
  | p :: r, K => by rw [kpV, kpV_len r]; simp
theorem tickV_len (N : NetP) (K : List Bool) (I V : List Int) : (tickV N K I V).2.length = V.length := by
  unfold tickV; simp only []; rw [clrV_len, runV_len, insV_len]
/-! ### code that may be -/
/-- All that a step names is there. -/
structure GoodStp (n m : Nat) (s : Stp) : Prop where
  d : 0 ≤ s.d ∧ s.d < n
  num : arityV s.c = 0 → 0 ≤ s.a ∧ s.a < m
  a : 1 ≤ arityV s.c → 0 ≤ s.a ∧ s.a < n
  b : 2 ≤ arityV s.c → 0 ≤ s.b ∧ s.b < n
  e : 3 ≤ arityV s.c → 0 ≤ s.e ∧ s.e < n
structure GoodNet (n : Nat) (N : NetP) : Prop where
  first : N.first.length = n
  ins : ∀ p ∈ N.ins, 0 ≤ p ∧ p < n
  outs : ∀ p ∈ N.outs, 0 ≤ p ∧ p < n
  keeps : ∀ p ∈ N.keeps, 0 ≤ p ∧ p < n
  code : ∀ s ∈ N.code, GoodStp n N.nums.length s
theorem place_iff {n p : Int} : placeB n p = true ↔ 0 ≤ p ∧ p < n := by unfold placeB; simp
theorem good_step {n m : Nat} {s : Stp} (h : stepV n m s = 0) : GoodStp n m s := by
  unfold stepV at h
  split at h
  · cases h
  split at h
  · cases h
  split at h
  · cases h
  split at h
  · cases h
  rename_i h1 h2 h3 h4
  have hd : placeB n s.d = true := by cases hp : placeB n s.d; exact absurd (.inl hp) h2; rfl
  have ha : (asksV s).all (placeB n) = true := by cases hp : (asksV s).all (placeB n); exact absurd (.inr hp) h2; rfl
  have h0 : ∀ (k : Nat) (v : Int), (asksV s)[k]? = some v → 0 ≤ v ∧ v < n := fun k v hk => place_iff.1 (List.all_eq_true.1 ha v (List.mem_of_getElem? hk))
  unfold asksV at h0
  refine ⟨place_iff.1 hd, fun h => ?_, fun h => h0 0 s.a ?_, fun h => h0 1 s.b ?_, fun h => h0 2 s.e ?_⟩
  · have hc : s.c = 1 := by
      by_cases hc : s.c = 1
      · exact hc
      · exact absurd ⟨hc, h⟩ h1
    omega
  · rw [List.getElem?_take, if_pos (by omega)]; rfl
  · rw [List.getElem?_take, if_pos (by omega)]; rfl
  · rw [List.getElem?_take, if_pos (by omega)]; rfl
theorem good_steps {P m : Int} : ∀ {l : List Stp} {i : Nat}, stepsV P m l i = (0, -1) → ∀ s ∈ l, stepV P m s = 0
  | [], _, _, s, hs => by cases hs
  | x :: r, i, h, s, hs => by
    unfold stepsV at h
    split at h
    · rename_i h0
      rcases List.mem_cons.1 hs with rfl | hs
      · exact h0
      · exact good_steps h s hs
    · rename_i h0
      exact absurd (congrArg Prod.fst h) h0
theorem good_net {N : NetP} (h : judgeV N = (0, -1)) : N.places = (N.first.length : Int) ∧ GoodNet N.first.length N := by
  unfold judgeV at h
  split at h
  · cases h
  split at h
  · cases h
  split at h
  · cases h
  split at h
  · cases h
  rename_i h1 h2 h3 h4
  have hp : N.places = (N.first.length : Int) := by omega
  have hall : ∀ p, p ∈ N.ins ++ (N.outs ++ N.keeps) → 0 ≤ p ∧ p < (N.first.length : Int) := fun p hm => by
    rw [hp] at h3
    cases hb : placeB N.first.length p
    · exact absurd (List.any_eq_true.2 ⟨p, hm, by rw [hb]; rfl⟩) h3
    · exact place_iff.1 hb
  refine ⟨hp, rfl, fun p hm => hall p (by simp [hm]), fun p hm => hall p (by simp [hm]), fun p hm => hall p (by simp [hm]), fun s hs => ?_⟩
  rw [hp] at h
  exact good_step (good_steps h s hs)
/-! ### nothing is kept -/
theorem clrV_none : ∀ (k i : Nat) (V : List Int), V.length = i + k → clrV (List.replicate k false) i V = V.take i ++ List.replicate k 0
  | 0, i, V, h => by rw [List.take_of_length_le (by omega)]; simp [clrV]
  | k + 1, i, V, h => by
    rw [List.replicate_succ, clrV, if_neg (by simp), clrV_none k (i + 1) _ (by simp; omega), List.replicate_succ]
    have : i < V.length := by omega
    rw [List.take_succ_eq_append_getElem (by simpa using this), List.take_set_of_le (Nat.le_refl _)]
    simp
theorem steps_fine0 (P m : Int) : ∀ (cs : List Stp) (i : Nat), (stepsV P m cs i).1 = 0 → (stepsV P m cs i).2 = -1
  | [], i, _ => rfl
  | s :: r, i, h => by
    unfold stepsV at *
    by_cases h0 : stepV P m s = 0
    · rw [if_pos h0] at h ⊢; exact steps_fine0 P m r _ h
    · rw [if_neg h0] at h; exact absurd h h0
theorem judge_fine0 {N : NetP} (h : (judgeV N).1 = 0) : (judgeV N).2 = -1 := by
  unfold judgeV at *
  by_cases h1 : N.places < 0
  · rw [if_pos h1] at h; cases h
  rw [if_neg h1] at h ⊢
  by_cases h2 : (N.first.length : Int) ≠ N.places
  · rw [if_pos h2] at h; cases h
  rw [if_neg h2] at h ⊢
  by_cases h3 : (N.ins ++ (N.outs ++ N.keeps)).any (fun p => !placeB N.places p) = true
  · rw [if_pos h3] at h; cases h
  rw [if_neg h3] at h ⊢
  by_cases h4 : twiceV [] N.ins = true
  · rw [if_pos h4] at h; cases h
  rw [if_neg h4] at h ⊢
  exact steps_fine0 _ _ _ _ h
theorem judge_ok {N : NetP} (h : (judgeV N).1 = 0) : judgeV N = (0, -1) := Prod.ext h (judge_fine0 h)
theorem clr_all {n : Nat} {V : List Int} (h : V.length = n) : clrV (List.replicate n false) 0 V = List.replicate n 0 := by
  rw [clrV_none n 0 V (by omega)]; simp
/-- Behind a tick all places are 0. -/
theorem tick_zero (N : NetP) (I V : List Int) {n : Nat} (h : V.length = n) : (tickV N (List.replicate n false) I V).2 = List.replicate n 0 := by
  unfold tickV
  simp only []
  exact clr_all (by rw [runV_len, insV_len, h])
end Go.Proofs.YtgglbjniclkkpaaDoor

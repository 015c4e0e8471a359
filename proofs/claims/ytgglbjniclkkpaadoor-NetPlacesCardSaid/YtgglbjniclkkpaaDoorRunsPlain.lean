/-
  PLAIN: what is kept behind a tick, place by place.
-/
import Derived.Test.YtgglbjniclkkpaaDoorTickPlain
namespace Go.Proofs.YtgglbjniclkkpaaDoor
open Go.RowKit

theorem clrV_get : ∀ (K : List Bool) (i : Nat) (V : List Int) (q : Nat), i + K.length = V.length → q < V.length → (clrV K i V).getD q 0 = if q < i then V.getD q 0 else if K.getD (q - i) false = true then V.getD q 0 else 0
  | [], i, V, q, h, hq => by
    simp only [List.length_nil, Nat.add_zero] at h
    rw [clrV, if_pos (by omega)]
  | b :: r, i, V, q, h, hq => by
    simp only [List.length_cons] at h
    rw [clrV]
    cases b
    · rw [if_neg (by simp), clrV_get r (i + 1) _ q (by simp; omega) (by simpa using hq)]
      by_cases h1 : q < i
      · rw [if_pos (by omega), if_pos h1, List.getD_eq_getElem?_getD, List.getElem?_set_ne (by omega), ← List.getD_eq_getElem?_getD]
      · rw [if_neg h1]
        by_cases h2 : q = i
        · subst h2
          rw [if_pos (by omega), Nat.sub_self, List.getD_eq_getElem?_getD, List.getElem?_set_self hq]
          simp
        · rw [if_neg (by omega), show q - i = (q - (i + 1)) + 1 by omega, List.getD_eq_getElem?_getD (l := V.set i 0), List.getElem?_set_ne (by omega), ← List.getD_eq_getElem?_getD]
          rfl
    · rw [if_pos rfl, clrV_get r (i + 1) V q (by omega) hq]
      by_cases h1 : q < i
      · rw [if_pos (by omega), if_pos h1]
      · rw [if_neg h1]
        by_cases h2 : q = i
        · subst h2
          rw [if_pos (by omega), Nat.sub_self]
          rfl
        · rw [if_neg (by omega), show q - i = (q - (i + 1)) + 1 by omega]
          rfl
theorem kpV_get : ∀ (ps : List Int) (K : List Bool) (q : Nat), q < K.length → (kpV ps K).getD q false = (K.getD q false || decide (q ∈ ps.map Int.toNat))
  | [], K, q, h => by simp [kpV]
  | p :: r, K, q, h => by
    rw [kpV, kpV_get r _ q (by simpa using h)]
    by_cases e : q = p.toNat
    · subst e
      rw [List.getD_eq_getElem?_getD, List.getElem?_set_self h]
      simp
    · rw [List.getD_eq_getElem?_getD, List.getElem?_set_ne (fun h => e h.symm), ← List.getD_eq_getElem?_getD]
      simp [e]
/-- What the reference keeps is what code keeps. -/
theorem kept_same {n : Nat} {ps : List Int} {R V' : List Int} (hR : R.length = n) (hV : V'.length = n) (h : ∀ q, q < n → V'.getD q 0 = if q ∈ ps.map Int.toNat then R.getD q 0 else 0) : V' = clrV (kpV ps (List.replicate n false)) 0 R := by
  have hl : (clrV (kpV ps (List.replicate n false)) 0 R).length = n := by rw [clrV_len, hR]
  apply List.ext_getElem (by rw [hV, hl])
  intro q h1 h2
  have hq : q < n := by omega
  have e := h q hq
  have e2 := clrV_get (kpV ps (List.replicate n false)) 0 R q (by rw [kpV_len]; simp [hR]) (by omega)
  rw [if_neg (by omega), Nat.sub_zero, kpV_get _ _ _ (by simpa using hq)] at e2
  have e3 : (List.replicate n false).getD q false = false := by rw [List.getD_eq_getElem?_getD, List.getElem?_replicate]; split <;> rfl
  rw [e3, Bool.false_or] at e2
  rw [List.getD_eq_getElem?_getD, List.getElem?_eq_getElem h1] at e
  rw [List.getD_eq_getElem?_getD, List.getElem?_eq_getElem h2] at e2
  simp only [Option.getD_some] at e e2
  rw [e, e2]
  by_cases hm : q ∈ ps.map Int.toNat
  · rw [if_pos hm, if_pos (by simpa using hm)]
  · rw [if_neg hm, if_neg (by simpa using hm)]
end Go.Proofs.YtgglbjniclkkpaaDoor

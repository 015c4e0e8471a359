/-
  PLAIN: what steps make are numbers of 64 bits.
-/
import Derived.Test.YtgglbjniclkkpaaDoorTickPlain
import Derived.Test.YtgglbjniclkkpaaDoorImagePlain
import Derived.Test.YtgglbjniclkkpaaDoorOpenOk
namespace Go.Proofs.YtgglbjniclkkpaaDoor
open Go.RowKit

theorem wrap_ok (x : Int) : okN (wrap64 x) := by
  unfold wrap64 okN
  omega
theorem tru_ok (p : Bool) : okN (tru p) := by unfold tru okN; split <;> omega
theorem oneV_ok (c a : Int) : okN (oneV c a) := by
  unfold oneV
  split
  · exact wrap_ok _
  · split
    · exact tru_ok _
    · unfold okN; omega
theorem tmod_ok {a : Int} (b : Int) (h : okN a) : okN (a.tmod b) := by
  unfold okN at *
  have h1 : (a.tmod b).natAbs = a.natAbs % b.natAbs := Int.natAbs_tmod a b
  have h2 : a.natAbs % b.natAbs ≤ a.natAbs := Nat.mod_le _ _
  rcases Int.le_total 0 a with h3 | h3
  · have h4 := Int.tmod_nonneg b h3
    omega
  · have h4 : 0 ≤ (-a).tmod b := Int.tmod_nonneg b (by omega)
    rw [Int.neg_tmod] at h4
    omega
theorem twoV_ok {c a b : Int} (ha : okN a) : okN (twoV c a b) := by
  unfold twoV divV modV
  repeat' split
  all_goals first | exact wrap_ok _ | exact tru_ok _ | exact tmod_ok _ ha | (unfold okN; omega)
theorem pickV_ok {a b c : Int} (hb : okN b) (hc : okN c) : okN (pickV a b c) := by unfold pickV; split <;> assumption
end Go.Proofs.YtgglbjniclkkpaaDoor

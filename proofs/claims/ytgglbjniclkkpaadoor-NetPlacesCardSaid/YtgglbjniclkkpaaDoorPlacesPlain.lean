/-
  PLAIN: places called otherwise: code tells the same.
-/
import Derived.Test.YtgglbjniclkkpaaDoorTickPlain
import Derived.Test.YtgglbjniclkkpaaDoorRunsPlain
import Derived.Test.YtgglbjniclkkpaaDoorTells
namespace Go.Proofs.YtgglbjniclkkpaaDoor
open Go.RowKit

/-- A place's other name, as a number. -/
def toN (P b : Nat) (p : Nat) : Nat := (p + b) % P
theorem toN_lt {P b p : Nat} (h : 0 < P) : toN P b p < P := Nat.mod_lt _ h
theorem toN_inj {P b p q : Nat} (hp : p < P) (hq : q < P) (hb : b < P) (h : toN P b p = toN P b q) : p = q := by
  unfold toN at h
  have h1 : p + b < P ∨ (P ≤ p + b ∧ p + b < 2 * P) := by omega
  have h2 : q + b < P ∨ (P ≤ q + b ∧ q + b < 2 * P) := by omega
  rcases h1 with h1 | ⟨h1, h1'⟩ <;> rcases h2 with h2 | ⟨h2, h2'⟩
  · rw [Nat.mod_eq_of_lt h1, Nat.mod_eq_of_lt h2] at h; omega
  · rw [Nat.mod_eq_of_lt h1, Nat.mod_eq_sub_mod h2, Nat.mod_eq_of_lt (by omega)] at h; omega
  · rw [Nat.mod_eq_sub_mod h1, Nat.mod_eq_of_lt (by omega), Nat.mod_eq_of_lt h2] at h; omega
  · rw [Nat.mod_eq_sub_mod h1, Nat.mod_eq_of_lt (by omega), Nat.mod_eq_sub_mod h2, Nat.mod_eq_of_lt (by omega)] at h; omega
/-- The same numbers, at places called otherwise. -/
structure Sim (P b : Nat) (V V' : List Int) : Prop where
  l : V.length = P
  l' : V'.length = P + 1
  eq : ∀ p, p < P → V'.getD (toN P b p) 0 = V.getD p 0
theorem getD_set_self {V : List Int} {q : Nat} (x : Int) (h : q < V.length) : (V.set q x).getD q 0 = x := by
  rw [List.getD_eq_getElem?_getD, List.getElem?_set_self h]; rfl
theorem getD_set_ne {V : List Int} {p q : Nat} (x : Int) (h : q ≠ p) : (V.set q x).getD p 0 = V.getD p 0 := by
  rw [List.getD_eq_getElem?_getD, List.getElem?_set_ne h, ← List.getD_eq_getElem?_getD]
section
variable {P b : Nat} {V V' : List Int}
theorem Sim.set (h : Sim P b V V') (hb : b < P) {q : Nat} (hq : q < P) (x : Int) : Sim P b (V.set q x) (V'.set (toN P b q) x) := by
  refine ⟨by simpa using h.l, by simpa using h.l', fun p hp => ?_⟩
  by_cases e : q = p
  · subst e
    rw [getD_set_self x (by rw [h.l']; have := toN_lt (b := b) (p := q) (show 0 < P by omega); omega), getD_set_self x (by rw [h.l]; exact hq)]
  · rw [getD_set_ne x (fun h => e (toN_inj hq hp hb h)), getD_set_ne x e, h.eq p hp]
/-- What stands at the place that nobody asks. -/
theorem Sim.more (h : Sim P b V V') (x : Int) : Sim P b V (V'.set P x) := by
  refine ⟨h.l, by simpa using h.l', fun p hp => ?_⟩
  have := toN_lt (b := b) (p := p) (show 0 < P by omega)
  rw [getD_set_ne x (by omega), h.eq p hp]
end
/-- A place among numbers. -/
def toI (P b : Nat) (p : Int) : Int := ((toN P b p.toNat : Nat) : Int)
/-- A step, with places called otherwise. -/
def toS (P b : Nat) (s : Stp) : Stp :=
  ⟨s.c, toI P b s.d, if 1 ≤ arityV s.c then toI P b s.a else s.a, if 2 ≤ arityV s.c then toI P b s.b else 0, if 3 ≤ arityV s.c then toI P b s.e else 0⟩
theorem insV_sim {P b : Nat} (hb : b < P) (I : List Int) : ∀ (ps : List Int) (i : Nat) (V V' : List Int), Sim P b V V' → (∀ p ∈ ps, 0 ≤ p ∧ p < (P : Int)) → Sim P b (insV I ps i V) (insV I (ps.map (toI P b)) i V')
  | [], _, _, _, h, _ => h
  | p :: r, i, V, V', h, hp => by
    have h1 := hp p (by simp)
    rw [List.map_cons, insV, insV]
    refine insV_sim hb I r (i + 1) _ _ ?_ (fun x hx => hp x (by simp [hx]))
    unfold toI
    rw [Int.toNat_natCast]
    exact h.set hb (by omega) _
theorem at_sim {P b : Nat} {V V' : List Int} (h : Sim P b V V') {p : Int} (hp : 0 ≤ p ∧ p < (P : Int)) : atV V' (toI P b p) = atV V p := by
  unfold atV toI
  rw [Int.toNat_natCast]
  exact h.eq _ (by omega)
theorem val_sim {P b : Nat} {V V' nums : List Int} (h : Sim P b V V') {s : Stp} (hs : GoodStp P nums.length s) : valV nums V' (toS P b s) = valV nums V s := by
  have ha := arity_le s.c
  have hc : arityV s.c = 0 ∨ arityV s.c = 1 ∨ arityV s.c = 2 ∨ arityV s.c = 3 := by omega
  unfold valV toS
  simp only []
  rcases hc with hc | hc | hc | hc
  · rw [hc]; simp
  · have a1 := at_sim h (hs.a (by omega))
    rw [hc]; simp [a1]
  · have a1 := at_sim h (hs.a (by omega))
    have a2 := at_sim h (hs.b (by omega))
    rw [hc]; simp [a1, a2]
  · have a1 := at_sim h (hs.a (by omega))
    have a2 := at_sim h (hs.b (by omega))
    have a3 := at_sim h (hs.e (by omega))
    rw [hc]; simp [a1, a2, a3]
/-- Code with places called otherwise, and with steps more between that put something where nobody asks. -/
inductive Mixed (P b : Nat) : List Stp → List Stp → Prop where
  | nil : Mixed P b [] []
  | cons {s : Stp} {r r' : List Stp} : Mixed P b r r' → Mixed P b (s :: r) (toS P b s :: r')
  | more {r r' : List Stp} {x y : Nat} : x < P + 1 → y < P → Mixed P b r r' → Mixed P b r (⟨6, P, x, y, 0⟩ :: r')
theorem run_sim {P b : Nat} {nums : List Int} (hb : b < P) {cs cs' : List Stp} (hm : Mixed P b cs cs') : ∀ (V V' : List Int), Sim P b V V' → (∀ s ∈ cs, GoodStp P nums.length s) → Sim P b (runV nums cs V) (runV nums cs' V') := by
  induction hm with
  | nil => intro V V' h _; exact h
  | @cons s r r' _ ih =>
    intro V V' h hg
    rw [runV, runV]
    have hs := hg s (by simp)
    refine ih _ _ ?_ (fun x hx => hg x (by simp [hx]))
    rw [val_sim h hs]
    have hd := hs.d
    have e : (toS P b s).d.toNat = toN P b s.d.toNat := by unfold toS toI; simp
    rw [e]
    exact h.set hb (by omega) _
  | more _ _ _ ih =>
    intro V V' h hg
    rw [runV]
    refine ih _ _ ?_ hg
    show Sim P b V (V'.set ((P : Int)).toNat _)
    rw [Int.toNat_natCast]
    exact h.more _
/-- What is kept, called otherwise. -/
theorem keeps_sim {P b : Nat} (hb : b < P) {ps : List Int} (hps : ∀ p ∈ ps, 0 ≤ p ∧ p < (P : Int)) {q : Nat} (hq : q < P) : (kpV (ps.map (toI P b)) (List.replicate (P + 1) false)).getD (toN P b q) false = (kpV ps (List.replicate P false)).getD q false := by
  have hlt := toN_lt (b := b) (p := q) (show 0 < P by omega)
  rw [kpV_get _ _ _ (by simp; omega), kpV_get _ _ _ (by simpa using hq)]
  have e1 : (List.replicate (P + 1) false).getD (toN P b q) false = false := by rw [List.getD_eq_getElem?_getD, List.getElem?_replicate]; split <;> rfl
  have e2 : (List.replicate P false).getD q false = false := by rw [List.getD_eq_getElem?_getD, List.getElem?_replicate]; split <;> rfl
  rw [e1, e2, Bool.false_or, Bool.false_or, decide_eq_decide]
  simp only [List.map_map, List.mem_map, Function.comp]
  constructor
  · rintro ⟨p, hp, e⟩
    have h1 := hps p hp
    refine ⟨p, hp, ?_⟩
    unfold toI at e
    rw [Int.toNat_natCast] at e
    exact toN_inj (by omega) hq hb e
  · rintro ⟨p, hp, e⟩
    exact ⟨p, hp, by unfold toI; rw [Int.toNat_natCast, e]⟩
theorem clr_sim {P b : Nat} (hb : b < P) {ps : List Int} (hps : ∀ p ∈ ps, 0 ≤ p ∧ p < (P : Int)) {V V' : List Int} (h : Sim P b V V') : Sim P b (clrV (kpV ps (List.replicate P false)) 0 V) (clrV (kpV (ps.map (toI P b)) (List.replicate (P + 1) false)) 0 V') := by
  refine ⟨by rw [clrV_len, h.l], by rw [clrV_len, h.l'], fun p hp => ?_⟩
  have hlt := toN_lt (b := b) (p := p) (show 0 < P by omega)
  have e1 := clrV_get (kpV (ps.map (toI P b)) (List.replicate (P + 1) false)) 0 V' (toN P b p) (by rw [kpV_len]; simp [h.l']) (by rw [h.l']; omega)
  have e2 := clrV_get (kpV ps (List.replicate P false)) 0 V p (by rw [kpV_len]; simp [h.l]) (by rw [h.l]; omega)
  rw [if_neg (by omega), Nat.sub_zero, keeps_sim hb hps hp, h.eq p hp] at e1
  rw [if_neg (by omega), Nat.sub_zero] at e2
  rw [e1, e2]
/-- Code called otherwise tells the same in a tick. -/
theorem tick_sim {P b : Nat} (hb : b < P) {N N' : NetP} (hg : GoodNet P N) (h1 : N'.ins = N.ins.map (toI P b)) (h2 : N'.outs = N.outs.map (toI P b)) (h3 : N'.nums = N.nums) (h4 : Mixed P b N.code N'.code) {V V' : List Int} (h : Sim P b V V') (I : List Int) :
    (tickV N' (kpV (N.keeps.map (toI P b)) (List.replicate (P + 1) false)) I V').1 = (tickV N (kpV N.keeps (List.replicate P false)) I V).1 ∧ Sim P b (tickV N (kpV N.keeps (List.replicate P false)) I V).2 (tickV N' (kpV (N.keeps.map (toI P b)) (List.replicate (P + 1) false)) I V').2 := by
  have hr := run_sim (nums := N.nums) hb h4 _ _ (insV_sim hb I N.ins 0 V V' h hg.ins) hg.code
  unfold tickV
  simp only []
  rw [h1, h2, h3, List.map_map]
  exact ⟨List.map_congr_left fun p hp => at_sim hr (hg.outs p hp), clr_sim hb hg.keeps hr⟩
theorem runs_sim {P b : Nat} (hb : b < P) {N N' : NetP} (hg : GoodNet P N) (h1 : N'.ins = N.ins.map (toI P b)) (h2 : N'.outs = N.outs.map (toI P b)) (h3 : N'.nums = N.nums) (h4 : Mixed P b N.code N'.code) : ∀ (R : List (List Int)) (V V' out : List Int), Sim P b V V' →
    runsV N' (kpV (N.keeps.map (toI P b)) (List.replicate (P + 1) false)) R V' out = runsV N (kpV N.keeps (List.replicate P false)) R V out
  | [], _, _, _, _ => rfl
  | I :: r, V, V', out, h => by
    obtain ⟨e1, e2⟩ := tick_sim hb hg h1 h2 h3 h4 h I
    rw [runsV, runsV, e1]
    exact runs_sim hb hg h1 h2 h3 h4 r _ _ _ e2
/-! ### it may be -/
theorem toI_lt {P b : Nat} (h : 0 < P) (p : Int) : 0 ≤ toI P b p ∧ toI P b p < ((P + 1 : Nat) : Int) := by
  have := toN_lt (b := b) (p := p.toNat) h
  unfold toI
  omega
theorem steps_all {P m : Int} : ∀ {l : List Stp} (i : Nat), (∀ s ∈ l, stepV P m s = 0) → stepsV P m l i = (0, -1)
  | [], _, _ => rfl
  | s :: r, i, h => by rw [stepsV, if_pos (h s (by simp))]; exact steps_all (i + 1) (fun x hx => h x (by simp [hx]))
theorem badB_all {n : Int} {xs : List Int} (h : ∀ x ∈ xs, 0 ≤ x ∧ x < n) : badB n xs = false := badB_false.2 (List.all_eq_true.2 fun x hx => place_iff.2 (h x hx))
theorem toS_ok {P b m : Nat} (hP : 0 < P) {s : Stp} (h : stepV P m s = 0) : stepV ((P + 1 : Nat) : Int) m (toS P b s) = 0 := by
  have hg := good_step h
  have hc : s.c = 1 ∨ arityV s.c ≠ 0 := by
    by_cases h1 : s.c = 1
    · exact .inl h1
    · right
      intro h0
      rw [step_form h1 h0] at h
      cases h
  have ha := arity_le s.c
  refine step_ok (s := toS P b s) hc (place_iff.2 (toI_lt hP s.d)) (badB_all fun x hx => ?_) ?_ ?_
  · have hx := List.mem_of_getElem? (List.getElem?_of_mem hx).choose_spec
    unfold asksV toS at hx
    simp only [] at hx
    have hk : arityV s.c = 0 ∨ arityV s.c = 1 ∨ arityV s.c = 2 ∨ arityV s.c = 3 := by omega
    rcases hk with hk | hk | hk | hk
    · rw [hk] at hx; simp at hx
    · rw [hk] at hx; simp at hx; rw [hx]; exact toI_lt hP _
    · rw [hk] at hx; simp at hx; rcases hx with rfl | rfl <;> exact toI_lt hP _
    · rw [hk] at hx; simp at hx; rcases hx with rfl | rfl | rfl <;> exact toI_lt hP _
  · by_cases h1 : s.c = 1
    · right
      have h0 : arityV s.c = 0 := by rw [h1]; decide
      have := hg.num h0
      unfold toS
      simp only []
      rw [if_neg (by omega)]
      exact this
    · exact .inl h1
  · unfold toS
    simp only []
    rintro (⟨h1, h2⟩ | ⟨h1, h2⟩)
    · rw [if_neg (by omega)] at h2; exact h2 rfl
    · rw [if_neg (by omega)] at h2; exact h2 rfl
theorem more_ok {P m x y : Nat} (hx : x < P + 1) (hy : y < P) : stepV ((P + 1 : Nat) : Int) m ⟨6, P, x, y, 0⟩ = 0 := by
  have e : arityV 6 = 2 := by decide
  refine step_ok (s := ⟨6, P, x, y, 0⟩) (.inr (by show arityV 6 ≠ 0; omega)) (place_iff.2 (by show (0 : Int) ≤ (P : Int) ∧ (P : Int) < ((P + 1 : Nat) : Int); omega)) (badB_all fun z hz => ?_) (.inl (by show (6 : Int) ≠ 1; decide)) ?_
  · unfold asksV at hz
    simp only [e] at hz
    simp at hz
    rcases hz with rfl | rfl <;> omega
  · simp only [e]
    rintro (⟨h1, _⟩ | ⟨_, h2⟩)
    · omega
    · exact h2 rfl
theorem mixed_ok {P b m : Nat} (hP : 0 < P) {cs cs' : List Stp} (h : Mixed P b cs cs') (hc : ∀ s ∈ cs, stepV P m s = 0) : ∀ s ∈ cs', stepV ((P + 1 : Nat) : Int) m s = 0 := by
  induction h with
  | nil => intro s hs; cases hs
  | @cons s r r' _ ih =>
    intro x hx
    rcases List.mem_cons.1 hx with rfl | hx
    · exact toS_ok hP (hc s (by simp))
    · exact ih (fun y hy => hc y (by simp [hy])) x hx
  | more h1 h2 _ ih =>
    intro x hx
    rcases List.mem_cons.1 hx with rfl | hx
    · exact more_ok h1 h2
    · exact ih hc x hx
theorem twice_sim {P b : Nat} (hb : b < P) : ∀ (xs seen : List Int), (∀ x ∈ xs, 0 ≤ x ∧ x < (P : Int)) → (∀ x ∈ seen, 0 ≤ x ∧ x < (P : Int)) → twiceV (seen.map (toI P b)) (xs.map (toI P b)) = twiceV seen xs
  | [], _, _, _ => rfl
  | x :: r, seen, hx, hs => by
    have h1 := hx x (by simp)
    have e : (seen.map (toI P b)).any (· == toI P b x) = seen.any (· == x) := by
      rw [List.any_map]
      apply Bool.eq_iff_iff.2
      simp only [List.any_eq_true, Function.comp, beq_iff_eq]
      constructor
      · rintro ⟨y, hy, e⟩
        have h2 := hs y hy
        refine ⟨y, hy, ?_⟩
        unfold toI at e
        have := toN_inj (P := P) (b := b) (p := y.toNat) (q := x.toNat) (by omega) (by omega) hb (by omega)
        omega
      · rintro ⟨y, hy, rfl⟩
        exact ⟨y, hy, rfl⟩
    rw [List.map_cons, twiceV, twiceV, e]
    split
    · rfl
    · have h := twice_sim hb r (seen ++ [x]) (fun y hy => hx y (by simp [hy])) (fun y hy => by rcases List.mem_append.1 hy with h | h; exact hs y h; have := List.mem_singleton.1 h; rw [this]; exact h1)
      rw [List.map_append] at h
      exact h
/-- Code called otherwise may be. -/
theorem judge_sim {P b : Nat} (hb : b < P) {N : NetP} (hj : judgeV N = (0, -1)) (hl : N.first.length = P) {F : List Int} (hF : F.length = P + 1) {cs : List Stp} (hm : Mixed P b N.code cs) : judgeV ⟨((P + 1 : Nat) : Int), F, N.ins.map (toI P b), N.outs.map (toI P b), N.keeps.map (toI P b), N.nums, cs⟩ = (0, -1) := by
  obtain ⟨hp, hg⟩ := good_net hj
  rw [hl] at hg hp
  have hP : 0 < P := by omega
  unfold judgeV at hj ⊢
  simp only []
  split at hj
  · cases hj
  split at hj
  · cases hj
  split at hj
  · cases hj
  split at hj
  · cases hj
  rename_i h1 h2 h3 h4
  rw [if_neg (by omega), if_neg (by rw [hF]; simp), if_neg, if_neg]
  · rw [hp] at hj
    exact steps_all 0 (mixed_ok hP hm (good_steps hj))
  · have := twice_sim hb N.ins [] hg.ins (by simp)
    rw [List.map_nil] at this
    rw [this]
    exact h4
  · intro h
    obtain ⟨x, hx, e⟩ := List.any_eq_true.1 h
    have hx2 : ∃ y, toI P b y = x := by
      rcases List.mem_append.1 hx with hx | hx
      · obtain ⟨y, _, e⟩ := List.mem_map.1 hx; exact ⟨y, e⟩
      · rcases List.mem_append.1 hx with hx | hx
        · obtain ⟨y, _, e⟩ := List.mem_map.1 hx; exact ⟨y, e⟩
        · obtain ⟨y, _, e⟩ := List.mem_map.1 hx; exact ⟨y, e⟩
    obtain ⟨y, rfl⟩ := hx2
    rw [place_iff.2 (toI_lt hP y)] at e
    cases e
end Go.Proofs.YtgglbjniclkkpaaDoor

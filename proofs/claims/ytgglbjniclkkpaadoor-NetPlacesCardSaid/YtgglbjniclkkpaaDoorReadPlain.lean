/-
  PLAIN: bytes read as numbers, as lists, as code; no program in sight.
-/
import Derived.Test.YtgglbjniclkkpaaDoorImagePlain
namespace Go.Proofs.YtgglbjniclkkpaaDoor
open Go.RowKit

/-- Seven bits a byte, the least ones first. -/
def valB : List UInt8 → Nat
  | [] => 0
  | b :: r => b.toNat % 128 + 128 * valB r
/-- Twice it, or one less than twice as much below 0: back. -/
def unzig (u : Nat) : Int := if u % 2 = 1 then -((u / 2 : Nat) : Int) - 1 else ((u / 2 : Nat) : Int)
theorem unzig_ok {u : Nat} (h : u < 18446744073709551616) : okN (unzig u) := by unfold unzig okN; split <;> omega
theorem zig_unzig (u : Nat) : Lib.zigzag (unzig u) = u := by
  unfold unzig Lib.zigzag
  split
  · rw [if_neg (by omega)]; omega
  · rw [if_pos (by omega)]; omega
theorem valB_snoc (c : UInt8) : ∀ (l : List UInt8), valB (l ++ [c]) = valB l + c.toNat % 128 * 128 ^ l.length
  | [] => by simp [valB]
  | b :: r => by
    simp only [List.cons_append, valB, List.length_cons, valB_snoc c r, Nat.pow_succ]
    rw [Nat.mul_add, Nat.add_assoc, Nat.mul_comm 128 (c.toNat % 128 * 128 ^ r.length), Nat.mul_assoc]
theorem valB_lt : ∀ (l : List UInt8), valB l < 128 ^ l.length
  | [] => by simp [valB]
  | b :: r => by
    have h := valB_lt r
    have h2 : b.toNat % 128 < 128 := Nat.mod_lt _ (by decide)
    simp only [valB, List.length_cons, Nat.pow_succ]
    omega
/-- What uvarint writes is read back. -/
theorem valB_uvarint (x : Nat) : valB (Lib.uvarint x) = x := by
  induction x using Nat.strongRecOn with
  | ind x ih =>
    by_cases h : 128 ≤ x
    · rw [Lib.uvarint_big h, valB, ih (x / 128) (by omega)]
      have e : ((x % 128 + 128).toUInt8).toNat = x % 128 + 128 := by
        simp [Nat.toUInt8, UInt8.toNat_ofNat']
        omega
      rw [e]
      omega
    · rw [Lib.uvarint_small (by omega)]
      have e : (x.toUInt8).toNat = x := by
        simp [Nat.toUInt8, UInt8.toNat_ofNat']
        omega
      unfold valB
      rw [e]
      unfold valB
      omega
/-- The bytes of a number as uvarint writes it. -/
theorem uvarint_valB (c : UInt8) (hc : c.toNat < 128) : ∀ (l : List UInt8), (∀ b ∈ l, 128 ≤ b.toNat) → (l = [] ∨ 0 < c.toNat) → Lib.uvarint (valB (l ++ [c])) = l ++ [c]
  | [], _, _ => by
    simp only [List.nil_append, valB]
    rw [show c.toNat % 128 + 128 * 0 = c.toNat by omega, Lib.uvarint_small hc]
    simp
  | b :: r, hb, hz => by
    have hc0 : 0 < c.toNat := by rcases hz with h | h; cases h; exact h
    have ih := uvarint_valB c hc r (fun x hx => hb x (by simp [hx])) (.inr hc0)
    have hb0 : 128 ≤ b.toNat := hb b (by simp)
    have hb1 : b.toNat < 256 := b.toNat_lt
    have hv : 1 ≤ valB (r ++ [c]) := by
      rw [valB_snoc]
      have : 1 ≤ 128 ^ r.length := Nat.pow_pos (by decide)
      have h2 : 1 ≤ c.toNat % 128 := by omega
      have := Nat.mul_le_mul h2 this
      omega
    simp only [List.cons_append, valB]
    rw [Lib.uvarint_big (by omega), show (b.toNat % 128 + 128 * valB (r ++ [c])) / 128 = valB (r ++ [c]) by omega, ih]
    congr 1
    rw [show (b.toNat % 128 + 128 * valB (r ++ [c])) % 128 + 128 = b.toNat by omega]
    simp
/-- The last byte of a number that takes more than one is not 0. -/
theorem uvarint_last : ∀ (l : List UInt8) (c : UInt8) (x : Nat), Lib.uvarint x = l ++ [c] → l ≠ [] → 0 < c.toNat
  | [], _, _, _, h => absurd rfl h
  | b :: r, c, x, h, _ => by
    by_cases hx : 128 ≤ x
    · rw [Lib.uvarint_big hx] at h
      simp only [List.cons_append, List.cons.injEq] at h
      by_cases hr : r = []
      · subst hr
        rcases Nat.lt_or_ge (x / 128) 128 with h2 | h2
        · rw [Lib.uvarint_small h2] at h
          have h3 := h.2
          simp at h3
          rw [← h3]
          simp [UInt8.toNat_ofNat']
          omega
        · rw [Lib.uvarint_big h2] at h
          have h3 := congrArg List.length h.2
          have := Lib.uvarint_pos (x / 128 / 128)
          simp only [List.length_cons, List.length_append, List.length_nil] at h3
          omega
      · exact uvarint_last r c (x / 128) h.2 hr
    · rw [Lib.uvarint_small (by omega)] at h
      have := congrArg List.length h
      simp at this
/-- A number is read, from byte i on; u: what has been read. -/
def getFrom (i u : Nat) : List UInt8 → Option (Int × List UInt8)
  | [] => none
  | c :: r => if 10 ≤ i then none else if i = 9 ∧ 1 < c.toNat then none else if c.toNat < 128 then (if i = 0 ∨ 0 < c.toNat then some (unzig (u + c.toNat % 128 * 128 ^ i), r) else none) else getFrom (i + 1) (u + c.toNat % 128 * 128 ^ i) r
def getV (s : List UInt8) : Option (Int × List UInt8) := getFrom 0 0 s
theorem getFrom_ok : ∀ (s : List UInt8) (i u : Nat), u < 128 ^ i → ∀ n r, getFrom i u s = some (n, r) → okN n ∧ r.length < s.length
  | [], _, _, _, _, _, h => by simp [getFrom] at h
  | c :: s, i, u, hu, n, r, h => by
    unfold getFrom at h
    split at h
    · cases h
    split at h
    · cases h
    rename_i h1 h2
    split at h
    · split at h
      · simp only [Option.some.injEq, Prod.mk.injEq] at h
        obtain ⟨rfl, rfl⟩ := h
        refine ⟨unzig_ok ?_, by simp⟩
        have hp : 128 ^ i ≤ 128 ^ 9 := Nat.pow_le_pow_right (by decide) (by omega)
        by_cases h9 : i = 9
        · subst h9
          have : c.toNat % 128 ≤ 1 := by omega
          have h3 : c.toNat % 128 * 128 ^ 9 ≤ 1 * 128 ^ 9 := Nat.mul_le_mul_right _ this
          have e : (128 : Nat) ^ 9 = 9223372036854775808 := by decide
          rw [e] at h3 hu
          omega
        · have hp2 : 128 ^ i ≤ 128 ^ 8 := Nat.pow_le_pow_right (by decide) (by omega)
          have : c.toNat % 128 ≤ 127 := by omega
          have h3 : c.toNat % 128 * 128 ^ i ≤ 127 * 128 ^ 8 := Nat.mul_le_mul this hp2
          have e : (128 : Nat) ^ 8 = 72057594037927936 := by decide
          rw [e] at h3 hp2
          omega
      · cases h
    · have hu2 : u + c.toNat % 128 * 128 ^ i < 128 ^ (i + 1) := by
        have : c.toNat % 128 ≤ 127 := by omega
        have h3 : c.toNat % 128 * 128 ^ i ≤ 127 * 128 ^ i := Nat.mul_le_mul_right _ this
        rw [Nat.pow_succ]
        omega
      obtain ⟨h3, h4⟩ := getFrom_ok s (i + 1) _ hu2 n r h
      exact ⟨h3, by simp; omega⟩
theorem getV_ok {s r : List UInt8} {n : Int} (h : getV s = some (n, r)) : okN n ∧ r.length < s.length := getFrom_ok s 0 0 (by decide) n r h
theorem getV_at (s : List UInt8) : ∀ (i : Nat), i ≤ 9 → i ≤ s.length → (∀ b ∈ s.take i, 128 ≤ b.toNat) → getV s = getFrom i (valB (s.take i)) (s.drop i)
  | 0, _, _, _ => by simp [getV, valB]
  | i + 1, h9, hl, hb => by
    have hi : i < s.length := by omega
    have e1 : s.take (i + 1) = s.take i ++ [s[i]] := List.take_succ_eq_append_getElem hi
    rw [getV_at s i (by omega) (by omega) (fun b hx => hb b (by rw [e1]; exact List.mem_append_left _ hx)), List.drop_eq_getElem_cons hi, getFrom, if_neg (by omega), if_neg (by omega)]
    have hc : 128 ≤ s[i].toNat := hb _ (by rw [e1]; exact List.mem_append_right _ (by simp))
    rw [if_neg (by omega), e1, valB_snoc, List.length_take, Nat.min_eq_left (by omega)]
theorem snoc_lt {l : List UInt8} {c : UInt8} (h9 : l.length ≤ 9) (hv : ¬ (l.length = 9 ∧ 1 < c.toNat)) (hc : c.toNat < 128) : valB (l ++ [c]) < 18446744073709551616 := by
  rw [valB_snoc]
  have hu := valB_lt l
  have hp : 128 ^ l.length ≤ 128 ^ 9 := Nat.pow_le_pow_right (by decide) h9
  by_cases h : l.length = 9
  · rw [h] at hu ⊢
    have : c.toNat % 128 ≤ 1 := by omega
    have h3 : c.toNat % 128 * 128 ^ 9 ≤ 1 * 128 ^ 9 := Nat.mul_le_mul_right _ this
    have e : (128 : Nat) ^ 9 = 9223372036854775808 := by decide
    rw [e] at h3 hu ⊢
    omega
  · have hp2 : 128 ^ l.length ≤ 128 ^ 8 := Nat.pow_le_pow_right (by decide) (by omega)
    have : c.toNat % 128 ≤ 127 := by omega
    have h3 : c.toNat % 128 * 128 ^ l.length ≤ 127 * 128 ^ 8 := Nat.mul_le_mul this hp2
    have e : (128 : Nat) ^ 8 = 72057594037927936 := by decide
    rw [e] at h3 hp2
    omega
/-- The reference's question: is it PUT so? -/
theorem put_check {l : List UInt8} {c : UInt8} (hl : ∀ b ∈ l, 128 ≤ b.toNat) (h9 : l.length ≤ 9) (hc : c.toNat < 128) :
    Lib.uvarint (valB (l ++ [c]) % 18446744073709551616) = l ++ [c] ↔ ¬ (l.length = 9 ∧ 1 < c.toNat) ∧ (l.length = 0 ∨ 0 < c.toNat) := by
  constructor
  · intro h
    have hv := congrArg valB h
    rw [valB_uvarint] at hv
    constructor
    · rintro ⟨e9, hc1⟩
      rw [valB_snoc, e9] at hv
      have h2 : 2 * 128 ^ 9 ≤ c.toNat % 128 * 128 ^ 9 := Nat.mul_le_mul_right _ (by omega)
      have e : (128 : Nat) ^ 9 = 9223372036854775808 := by decide
      rw [e] at h2 hv
      omega
    · by_cases h0 : l = []
      · left; simp [h0]
      · right; exact uvarint_last l c _ h h0
  · rintro ⟨hv, hz⟩
    rw [Nat.mod_eq_of_lt (snoc_lt h9 hv hc)]
    exact uvarint_valB c hc l hl (by rcases hz with h | h; exact .inl (List.eq_nil_of_length_eq_zero h); exact .inr h)
/-- The last byte of a number is at hand. -/
theorem getV_end {s : List UInt8} {i : Nat} (h9 : i ≤ 9) (hi : i < s.length) (hb : ∀ b ∈ s.take i, 128 ≤ b.toNat) (hc : s[i].toNat < 128) :
    getV s = if ¬ (i = 9 ∧ 1 < s[i].toNat) ∧ (i = 0 ∨ 0 < s[i].toNat) then some (unzig (valB (s.take i ++ [s[i]])), s.drop (i + 1)) else none := by
  rw [getV_at s i h9 (by omega) hb, List.drop_eq_getElem_cons hi, getFrom, if_neg (by omega), valB_snoc, List.length_take, Nat.min_eq_left (by omega)]
  by_cases h1 : i = 9 ∧ 1 < s[i].toNat
  · rw [if_pos h1, if_neg (fun h => h.1 h1)]
  · rw [if_neg h1, if_pos hc]
    by_cases h2 : i = 0 ∨ 0 < s[i].toNat
    · rw [if_pos h2, if_pos ⟨h1, h2⟩]
    · rw [if_neg h2, if_neg (fun h => h2 h.2)]
theorem getV_long {s : List UInt8} (hi : 9 < s.length) (hb : ∀ b ∈ s.take 9, 128 ≤ b.toNat) (hc : 1 < s[9].toNat) : getV s = none := by
  rw [getV_at s 9 (by omega) (by omega) hb, List.drop_eq_getElem_cons hi, getFrom, if_neg (by omega), if_pos ⟨rfl, hc⟩]
theorem getV_short {s : List UInt8} (hi : s.length ≤ 9) (hb : ∀ b ∈ s, 128 ≤ b.toNat) : getV s = none := by
  rw [getV_at s s.length hi (Nat.le_refl _) (by simpa using hb), List.drop_length]
  rfl
/-- A number from 0 to 4000. -/
def smallV (s : List UInt8) : Option (Nat × List UInt8) :=
  match getV s with
  | some (n, r) => if n < 0 ∨ 4000 < n then none else some (n.toNat, r)
  | none => none
theorem smallV_ok {s r : List UInt8} {n : Nat} (h : smallV s = some (n, r)) : n ≤ 4000 ∧ r.length < s.length := by
  unfold smallV at h
  split at h
  · rename_i m r' hg
    split at h
    · cases h
    · simp only [Option.some.injEq, Prod.mk.injEq] at h
      obtain ⟨rfl, rfl⟩ := h
      exact ⟨by omega, (getV_ok hg).2⟩
  · cases h
/-- k numbers. -/
def manyV : Nat → List UInt8 → Option (List Int × List UInt8)
  | 0, s => some ([], s)
  | k + 1, s => match getV s with
    | some (n, r) => match manyV k r with
      | some (l, r') => some (n :: l, r')
      | none => none
    | none => none
/-- k numbers from 0 to 4000. -/
def manySV : Nat → List UInt8 → Option (List Int × List UInt8)
  | 0, s => some ([], s)
  | k + 1, s => match smallV s with
    | some (n, r) => match manySV k r with
      | some (l, r') => some ((n : Int) :: l, r')
      | none => none
    | none => none
def listR (s : List UInt8) : Option (List Int × List UInt8) := match smallV s with | some (k, r) => manyV k r | none => none
def listS (s : List UInt8) : Option (List Int × List UInt8) := match smallV s with | some (k, r) => manySV k r | none => none
/-- Numbers that are all from 0 to 4000. -/
def inB (n : Int) : Bool := decide (0 ≤ n ∧ n ≤ 4000)
theorem manySV_eq : ∀ (k : Nat) (s : List UInt8), manySV k s = match manyV k s with | some (l, r) => if l.all inB = true then some (l, r) else none | none => none
  | 0, s => by simp [manySV, manyV]
  | k + 1, s => by
    unfold manySV manyV smallV
    rcases hg : getV s with _ | ⟨n, r⟩
    · rfl
    · simp only []
      by_cases hn : n < 0 ∨ 4000 < n
      · rw [if_pos hn]
        rcases hm : manyV k r with _ | ⟨l, r'⟩
        · rfl
        · have : inB n = false := by unfold inB; simp; omega
          simp [this]
      · rw [if_neg hn]
        simp only []
        rw [manySV_eq k r]
        rcases hm : manyV k r with _ | ⟨l, r'⟩
        · rfl
        · have h1 : inB n = true := by unfold inB; simp; omega
          have h2 : ((n.toNat : Nat) : Int) = n := by omega
          by_cases hl : l.all inB = true
          · simp [h1, hl, h2]
          · simp [h1, hl]
end Go.Proofs.YtgglbjniclkkpaaDoor

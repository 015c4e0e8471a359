/-
  Lines and words, plainly: what strings.Split, strings.SplitSeq and strings.FieldsFunc part a text into.
-/
import Derived.Lib.SpaceUEq
import Derived.Lib.TrimUEq
import Derived.Lib.FieldsP
import Derived.Lib.IndexLaws
import Derived.Lib.IndexBytes
import Derived.Lib.Split
import Derived.Lib.CountLaws
namespace Go.Proofs.YtgglbjniclkkpaaGreatDoor
open Go Go.Lib
set_option linter.unusedVariables false

def ofL (l : List UInt8) : ByteArray := ⟨l.toArray⟩
theorem ofL_toList (s : ByteArray) : ofL s.data.toList = s := rfl
theorem toList_ofL (l : List UInt8) : (ofL l).data.toList = l := rfl
/-- The pieces between the c's. -/
def piecesGo (c : UInt8) : List UInt8 → List UInt8 → List (List UInt8)
  | cur, [] => [cur]
  | cur, b :: r => if b = c then cur :: piecesGo c [] r else piecesGo c (cur ++ [b]) r
/-- The pieces that are not empty. -/
def wordsGo (c : UInt8) : List UInt8 → List UInt8 → List (List UInt8)
  | cur, [] => if cur = [] then [] else [cur]
  | cur, b :: r => if b = c then (if cur = [] then wordsGo c [] r else cur :: wordsGo c [] r) else wordsGo c (cur ++ [b]) r
theorem words_pieces (c : UInt8) : ∀ (l cur : List UInt8), wordsGo c cur l = (piecesGo c cur l).filter (fun x => decide (x ≠ []))
  | [], cur => by
    unfold wordsGo piecesGo
    by_cases h : cur = [] <;> simp [h]
  | b :: r, cur => by
    unfold wordsGo piecesGo
    by_cases hb : b = c
    · rw [if_pos hb, if_pos hb, List.filter_cons, words_pieces c r []]
      by_cases h : cur = [] <;> simp [h]
    · rw [if_neg hb, if_neg hb]
      exact words_pieces c r _
theorem pieces_skip (c : UInt8) : ∀ (a cur r : List UInt8), (∀ b ∈ a, b ≠ c) → piecesGo c cur (a ++ r) = piecesGo c (cur ++ a) r
  | [], cur, r, _ => by simp
  | b :: a, cur, r, h => by
    rw [List.cons_append, piecesGo, if_neg (h b (by simp)), pieces_skip c a _ r (fun x hx => h x (by simp [hx]))]
    simp
theorem words_skip (c : UInt8) : ∀ (a cur r : List UInt8), (∀ b ∈ a, b ≠ c) → wordsGo c cur (a ++ r) = wordsGo c (cur ++ a) r
  | [], cur, r, _ => by simp
  | b :: a, cur, r, h => by
    rw [List.cons_append, wordsGo, if_neg (h b (by simp)), words_skip c a _ r (fun x hx => h x (by simp [hx]))]
    simp
theorem indexB_one (s : ByteArray) (c : UInt8) : indexB s ⟨#[c]⟩ = indexByte s.data.toList c := index_one _ _
/-- Split's pieces. -/
theorem splitB_pieces (c : UInt8) : ∀ (k : Nat) (s : ByteArray), s.size ≤ k → splitB ⟨#[c]⟩ 0 (countB s ⟨#[c]⟩) s = (piecesGo c [] s.data.toList).map ofL := by
  intro k
  induction k with
  | zero =>
    intro s hs
    rcases indexB_cases s ⟨#[c]⟩ with h | ⟨i, _, hi⟩
    · rw [countB_miss s _ h, splitB_zero]
      have : s.data.toList = [] := List.eq_nil_of_length_eq_zero (by have h1 : s.data.toList.length = s.size := by simp
                                                                     omega)
      rw [this, piecesGo]
      have h2 := ofL_toList s
      rw [this] at h2
      simp [h2]
    · exact absurd hi (by show ¬ (i + 1 ≤ s.size); omega)
  | succ k ih =>
    intro s hs
    rcases indexB_cases s ⟨#[c]⟩ with h | ⟨i, h, hi⟩
    · rw [countB_miss s _ h, splitB_zero]
      rw [indexB_one] at h
      have hn := indexByte_none h
      have hm : ∀ b ∈ s.data.toList, b ≠ c := by
        intro b hb e
        obtain ⟨q, hq⟩ := List.mem_iff_getElem?.1 hb
        exact hn q (by rw [hq, e])
      have := pieces_skip c s.data.toList [] [] hm
      rw [List.append_nil] at this
      rw [this, List.nil_append, piecesGo]
      rfl
    · have hi' : i + 1 ≤ s.size := hi
      rw [countB_hit s ⟨#[c]⟩ i (Nat.le_refl 1) h, Nat.add_comm, splitB_hit _ _ _ _ i h]
      have e1 : (⟨#[c]⟩ : ByteArray).size = 1 := rfl
      rw [e1, ih _ (by rw [show (s.extract (i + 1) s.size).size = s.size - (i + 1) by simp]; omega)]
      rw [indexB_one] at h
      obtain ⟨h1, h2⟩ := indexByte_some h
      have hlen : s.data.toList.length = s.size := by simp
      have hlt : i < s.data.toList.length := by omega
      have hsp : s.data.toList = s.data.toList.take i ++ (c :: s.data.toList.drop (i + 1)) := by
        conv => lhs; rw [← List.take_append_drop i s.data.toList, List.drop_eq_getElem_cons hlt]
        have : s.data.toList[i] = c := by rw [List.getElem?_eq_getElem hlt] at h1; exact Option.some.inj h1
        rw [this]
      have hm : ∀ b ∈ s.data.toList.take i, b ≠ c := by
        intro b hb e
        obtain ⟨q, hq⟩ := List.mem_iff_getElem?.1 hb
        have hql : q < i := by
          have := (List.getElem?_eq_some_iff.1 hq).1
          rw [List.length_take] at this
          omega
        rw [List.getElem?_take_of_lt hql] at hq
        exact h2 q hql (by rw [hq, e])
      conv => rhs; rw [hsp, pieces_skip c _ _ _ hm, List.nil_append, piecesGo, if_pos rfl, List.map_cons]
      rw [extract_to_end]
      congr 1
      rw [← ofL_toList (s.extract 0 (i + 0)), extract_from_zero]
      rfl
theorem splitB_all (c : UInt8) (s : ByteArray) : splitB ⟨#[c]⟩ 0 (countB s ⟨#[c]⟩) s = (piecesGo c [] s.data.toList).map ofL := splitB_pieces c s.size s (Nat.le_refl _)
theorem pieces_snoc (c : UInt8) : ∀ (l cur : List UInt8), piecesGo c cur (l ++ [c]) = piecesGo c cur l ++ [[]]
  | [], cur => by simp [piecesGo]
  | b :: r, cur => by
    rw [List.cons_append, piecesGo, piecesGo]
    by_cases hb : b = c
    · rw [if_pos hb, if_pos hb, pieces_snoc c r [], List.cons_append]
    · rw [if_neg hb, if_neg hb, pieces_snoc c r _]
theorem pieces_last (c b : UInt8) (hb : b ≠ c) : ∀ (l cur : List UInt8), ∃ i x, piecesGo c cur (l ++ [b]) = i ++ [x ++ [b]]
  | [], cur => ⟨[], cur, by simp [piecesGo, hb]⟩
  | d :: r, cur => by
    rw [List.cons_append, piecesGo]
    by_cases hd : d = c
    · obtain ⟨i, x, e⟩ := pieces_last c b hb r []
      exact ⟨cur :: i, x, by rw [if_pos hd, e, List.cons_append]⟩
    · obtain ⟨i, x, e⟩ := pieces_last c b hb r (cur ++ [d])
      exact ⟨i, x, by rw [if_neg hd, e]⟩
theorem pieces_ne (c : UInt8) : ∀ (l cur : List UInt8), piecesGo c cur l ≠ []
  | [], cur => by simp [piecesGo]
  | b :: r, cur => by
    rw [piecesGo]
    split
    · simp
    · exact pieces_ne c r _
theorem pieces_length (c : UInt8) : ∀ (l cur : List UInt8), (piecesGo c cur l).length ≤ l.length + 1
  | [], cur => by simp [piecesGo]
  | b :: r, cur => by
    rw [piecesGo]
    split
    · have := pieces_length c r []; simp; omega
    · have := pieces_length c r (cur ++ [b]); simp; omega
/-- The words of a piece of a text, by runes. -/
theorem fields_go (s : ByteArray) : ∀ (f pos : Nat) (st : Option Nat) (acc : List (Nat × Nat)), s.size ≤ pos + f → pos ≤ s.size → (∀ a, st = some a → a < pos) →
    (closeSpans s (spansFromP (fun r => r == 32) s f pos st acc)).map (fun x => s.extract x.1 x.2) =
      acc.map (fun x => s.extract x.1 x.2) ++ (wordsGo 32 (match st with | none => [] | some a => (s.data.toList.take pos).drop a) (s.data.toList.drop pos)).map ofL := by
  have hlen : s.data.toList.length = s.size := by simp
  have hend : ∀ (st : Option Nat) (acc : List (Nat × Nat)), (∀ a, st = some a → a < s.size) → (closeSpans s (acc, st)).map (fun x => s.extract x.1 x.2) =
      acc.map (fun x => s.extract x.1 x.2) ++ (wordsGo 32 (match st with | none => [] | some a => (s.data.toList.take s.size).drop a) (s.data.toList.drop s.size)).map ofL := by
    intro st acc hst
    rw [List.drop_of_length_le (by omega)]
    cases st with
    | none => simp [closeSpans, wordsGo]
    | some a =>
      have ha := hst a rfl
      have hne : (s.data.toList.take s.size).drop a ≠ [] := by
        intro h
        have := congrArg List.length h
        simp at this
        omega
      simp only [closeSpans, wordsGo, if_neg hne, List.map_append, List.map_cons, List.map_nil]
      congr 2
      rw [← ofL_toList (s.extract a s.size), extract_to_end, List.take_of_length_le (by omega)]
  intro f
  induction f with
  | zero =>
    intro pos st acc h1 h2 hst
    obtain rfl : pos = s.size := by omega
    exact hend st acc hst
  | succ f ih =>
    intro pos st acc h1 h2 hst
    by_cases hp : pos < s.size
    · unfold spansFromP
      rw [if_pos hp]
      have hd := decode_N s pos
      obtain ⟨n, hn⟩ : ∃ n, n = s.data.toList.length - pos := ⟨_, rfl⟩
      obtain ⟨b0, hb0⟩ : ∃ b, b = (s.data.toList.getD pos 0).toNat := ⟨_, rfl⟩
      obtain ⟨b1, hb1⟩ : ∃ b, b = (s.data.toList.getD (pos + 1) 0).toNat := ⟨_, rfl⟩
      obtain ⟨b2, hb2⟩ : ∃ b, b = (s.data.toList.getD (pos + 2) 0).toNat := ⟨_, rfl⟩
      obtain ⟨b3, hb3⟩ : ∃ b, b = (s.data.toList.getD (pos + 3) 0).toNat := ⟨_, rfl⟩
      rw [← hn, ← hb0, ← hb1, ← hb2, ← hb3] at hd
      have hc := decodeN_conts n b0 b1 b2 b3
      have hw1 := decodeN_ge1 n b0 b1 b2 b3
      have hw2 := decodeN_le_n' n b0 b1 b2 b3 (by omega)
      have hcs := decodeN_cases n b0 b1 b2 b3
      rw [← hd] at hc hw1 hw2 hcs
      obtain ⟨r, wd, hrw⟩ : ∃ r wd, Utf8.decode s pos = (r, wd) := ⟨_, _, rfl⟩
      rw [hrw] at hc hw1 hw2 hcs ⊢
      simp only at hc hw1 hw2 hcs ⊢
      have hdrop : s.data.toList.drop pos = s.data.toList.getD pos 0 :: s.data.toList.drop (pos + 1) := by
        rw [List.drop_eq_getElem_cons (by omega)]
        congr 1
        rw [List.getD_eq_getElem?_getD, List.getElem?_eq_getElem (by omega)]
        rfl
      by_cases hr : r = 32
      · subst hr
        have h32 : b0 = 32 ∧ wd = 1 := by
          rcases hcs with ⟨h, e⟩ | ⟨_, _, _, hv, e⟩ | ⟨_, _, _, _, hv, e⟩ | ⟨hv, _⟩ | e
          · rw [Prod.mk.injEq] at e; omega
          · rw [Prod.mk.injEq] at e; omega
          · rw [Prod.mk.injEq] at e; omega
          · omega
          · rw [Prod.mk.injEq] at e; omega
        obtain ⟨h0, rfl⟩ := h32
        have hb : s.data.toList.getD pos 0 = 32 := by
          apply UInt8.toNat.inj
          rw [← hb0, h0]; rfl
        rw [hdrop, hb, wordsGo, if_pos rfl]
        simp only [beq_self_eq_true, if_true]
        cases st with
        | none =>
          simp only [if_true]
          exact ih (pos + 1) none acc (by omega) (by omega) (fun a h => by cases h)
        | some a =>
          have ha := hst a rfl
          have hne : (s.data.toList.take pos).drop a ≠ [] := by
            intro h
            have := congrArg List.length h
            simp at this
            omega
          simp only [if_neg hne]
          rw [ih (pos + 1) none (acc ++ [(a, pos)]) (by omega) (by omega) (fun a h => by cases h)]
          simp only [List.map_append, List.map_cons, List.map_nil, List.append_assoc, List.singleton_append]
          congr 2
          rw [← ofL_toList (s.extract a pos), extract_data, List.drop_take]
      · have hr' : (r == 32) = false := by simpa using hr
        simp only [hr', Bool.false_eq_true, if_false]
        have hall : ∀ b ∈ (s.data.toList.drop pos).take wd, b ≠ 32 := by
          intro b hb e
          obtain ⟨q, hq⟩ := List.mem_iff_getElem?.1 hb
          have hql : q < wd := by
            have := (List.getElem?_eq_some_iff.1 hq).1
            rw [List.length_take] at this
            omega
          rw [List.getElem?_take_of_lt hql, List.getElem?_drop] at hq
          have hg : (s.data.toList.getD (pos + q) 0).toNat = 32 := by
            rw [List.getD_eq_getElem?_getD, hq, e]; rfl
          have hq4 : q = 0 ∨ q = 1 ∨ q = 2 ∨ q = 3 := by omega
          rcases hq4 with rfl | rfl | rfl | rfl
          · rw [Nat.add_zero, ← hb0] at hg
            rcases hcs with ⟨h, e⟩ | ⟨h, _⟩ | ⟨h, _⟩ | ⟨hv, h4⟩ | e
            · rw [Prod.mk.injEq] at e; omega
            · omega
            · omega
            · have := hd
              rw [hrw, decodeN_ascii n b0 b1 b2 b3 (by omega), Prod.mk.injEq] at this
              omega
            · have := hd
              rw [hrw, decodeN_ascii n b0 b1 b2 b3 (by omega), Prod.mk.injEq] at this
              omega
          · rw [← hb1] at hg; have := hc.1 (by omega); omega
          · rw [← hb2] at hg; have := hc.2.1 (by omega); omega
          · rw [← hb3] at hg; have := hc.2.2.1 (by omega); omega
        have hsp : s.data.toList.drop pos = (s.data.toList.drop pos).take wd ++ s.data.toList.drop (pos + wd) := by
          conv => lhs; rw [← List.take_append_drop wd (s.data.toList.drop pos)]
          rw [List.drop_drop]
        rw [hsp, words_skip 32 _ _ _ hall]
        have hcur : ∀ a, a ≤ pos → (s.data.toList.take pos).drop a ++ (s.data.toList.drop pos).take wd = (s.data.toList.take (pos + wd)).drop a := by
          intro a ha
          rw [List.take_add, List.drop_append_of_le_length (by rw [List.length_take]; omega)]
        cases st with
        | none =>
          rw [ih (pos + wd) (some pos) acc (by omega) (by omega) (fun a h => by cases h; omega)]
          have h0 := hcur pos (Nat.le_refl _)
          rw [List.drop_of_length_le (by rw [List.length_take]; omega), List.nil_append] at h0
          rw [List.nil_append, h0]
        | some a =>
          have ha := hst a rfl
          rw [ih (pos + wd) (some a) acc (by omega) (by omega) (fun a' h => by cases h; omega)]
          rw [hcur a (by omega)]
    · obtain rfl : pos = s.size := by omega
      rw [spansFromP_end _ _ _ _ _ _ (by omega)]
      exact hend st acc hst
/-- FieldsFunc at the blank. -/
theorem goFields_words (s : ByteArray) : goFieldsP (fun r => r == 32) s = (wordsGo 32 [] s.data.toList).map ofL := by
  have h := fields_go s s.size 0 none [] (by omega) (Nat.zero_le _) (fun a h => by cases h)
  simpa [goFieldsP, spansOfP] using h
/-- Split at the blank, without what is empty. -/
theorem split_words (s : ByteArray) : (splitB ⟨#[32]⟩ 0 (countB s ⟨#[32]⟩) s).filter (fun x => decide (x ≠ ofL [])) = (wordsGo 32 [] s.data.toList).map ofL := by
  rw [splitB_all, words_pieces, List.filter_map]
  congr 1
  apply List.filter_congr
  intro x _
  have e : (ofL x = ofL []) = (x = []) := propext ⟨fun h => by
    have h' := congrArg (fun (b : ByteArray) => b.data.toList) h
    simpa [ofL] using h', fun h => by rw [h]⟩
  simp [Function.comp, e]
end Go.Proofs.YtgglbjniclkkpaaGreatDoor

/-
  image.Write's inner functions: a list of numbers as bytes, behind what a captured variable holds; ints as numbers.
-/
import Derived.Test.YtgglbjniclkkpaaDoorPut
import Derived.OneCell
namespace Go.Proofs.YtgglbjniclkkpaaDoor
open Go.RowKit
set_option linter.unusedVariables false

/-- The captured variable at block p holds the bytes bs, in a row of the call's own. -/
def CapAt (w : World) (B p : Nat) (bs : List UInt8) : Prop := ∃ sv, w.heap[p]? = some (.cells #[sv] 82 (0, 0)) ∧ w.ownsRow B 5 1 sv bs.length (Lib.byteCells bs)
theorem ownsRow_setCell_other {w : World} {B : Nat} {v u : Value} {n p : Nat} {xs : List Value} {C : Array Value} (h : w.ownsRow B 5 1 v n xs) (hp : w.heap[p]? = some (.cells C 82 (0, 0))) (o : Nat) : (w.setCell ⟨p, o, none⟩ u).ownsRow B 5 1 v n xs := by
  refine ⟨h.1, ?_⟩
  rcases h.2 with hn | ⟨g, cap, cur, rfl, hb, hgg, rest⟩
  · exact .inl hn
  · refine .inr ⟨g, cap, cur, rfl, hb, ?_, rest⟩
    rw [Below.heap_setCell _ _ _ _ (fun e => by
      have e' : g = p := e
      subst e'
      rw [hp] at hgg
      have := Option.some.inj hgg
      cases this)]
    exact hgg
/-- A store into the variable. -/
theorem CapAt.put {w : World} {B p : Nat} {bs : List UInt8} {C : Value} {v : Value} (hp : w.heap[p]? = some (.cells #[C] 82 (0, 0))) (h : w.ownsRow B 5 1 v bs.length (Lib.byteCells bs)) : CapAt (w.setCell ⟨p, 0, none⟩ v) B p bs :=
  ⟨v, one_setCell hp, ownsRow_setCell_other h hp 0⟩
theorem cap_kept {w w1 : World} {p : Nat} {C : Value} (hp : w.heap[p]? = some (.cells #[C] 82 (0, 0))) (h : Lib.OthersKept 5 none w w1) : w1.heap[p]? = some (.cells #[C] 82 (0, 0)) :=
  h p _ hp (by simp) (by intro c fz e; cases e)
theorem OthersKept.some {w w1 : World} {e : TypeId} (p : Nat) (h : Lib.OthersKept e none w w1) : Lib.OthersKept e (some p) w w1 := fun k o hk hb ho => h k o hk (by simp) ho
theorem own_slice {w : World} {B n : Nat} {e : TypeId} {v : Value} {xs : List Value} (h : w.ownsRow B e 1 v n xs) : ∃ A c, v = .slice A n c := by
  rcases h.2 with ⟨rfl, rfl⟩ | ⟨g, cap, cur, rfl, _⟩
  · exact ⟨_, _, rfl⟩
  · exact ⟨_, _, rfl⟩
/-- The contract at a captured variable. -/
theorem put_cap (B : Nat) (n : Int) (hn : okN n) (sv : Value) (bs : List UInt8) (w : World) (hown : w.ownsRow B 5 1 sv bs.length (Lib.byteCells bs)) (hBw : B ≤ w.heap.size) (hlim : bs.length ≤ 1000000) :
    Calls Tryd.prog 51 #[sv, .int .i64 n] w fun r w' => ∃ A l c, r = .returned (.slice A l c) ∧ w'.ownsRow B 5 1 (.slice A l c) (bs ++ putV n).length (Lib.byteCells (bs ++ putV n)) ∧ Below B w w' ∧ Lib.OthersKept 5 none w w' :=
  (put_any B bs.length n hn sv _ w (.inl hown) hBw (by omega)).mono fun r w' ⟨v', e, h1, h2, h3⟩ => by
    obtain ⟨A, c, rfl⟩ := own_slice h1
    exact ⟨A, _, c, e, by rw [List.length_append, Lib.byteCells_append]; exact h1, h2, h3⟩
theorem getD_ok {xs : List Int} (h : ∀ x ∈ xs, okN x) (k : Nat) : okN (xs.getD k 0) := by
  rw [List.getD_eq_getElem?_getD]
  rcases hk : xs[k]? with _ | x
  · simp [okN]
  · exact h x (List.mem_of_getElem? hk)
theorem take_numsV {xs : List Int} {n : Nat} (hl : xs.length = n) (k : Nat) (hk : k < n) : numsV (xs.take (k + 1)) = numsV (xs.take k) ++ putV (xs.getD k 0) := by
  have hk' : k < xs.length := by omega
  rw [List.take_succ_eq_append_getElem hk', numsV_append, List.getD_eq_getElem?_getD, List.getElem?_eq_getElem hk']
  simp [numsV]
theorem take_numsV_len {xs : List Int} (h : ∀ x ∈ xs, okN x) (k : Nat) : (numsV (xs.take k)).length ≤ 10 * k := by
  have h1 := numsV_len (xs.take k) (fun x hx => h x (List.mem_of_mem_take hx))
  have h2 : (xs.take k).length ≤ k := List.length_take_le _ _
  omega
set_option maxHeartbeats 2000000 in
set_option maxRecDepth 100000 in
theorem list_any (B p : Nat) (A : Option Addr) (n c : Nat) (xs : List Int) (bs : List UInt8) (w : World) (hcap : CapAt w B p bs) (hp : B ≤ p) (hi : ∀ w', Below B w w' → Lib.OthersKept 5 (some p) w w' → IntsAt w' A n xs) (hx : ∀ x ∈ xs, okN x) (hn : n ≤ 4000) (hlim : bs.length ≤ 100000) :
    Calls Tryd.prog 52 #[.slice A n c, .pointer (some ⟨p, 0, none⟩)] w fun r w' => r = .returned (.tuple #[]) ∧ CapAt w' B p (bs ++ listV xs) ∧ Below B w w' ∧ Lib.OthersKept 5 (some p) w w' := by
  obtain ⟨sv, h0, hown⟩ := hcap
  have hps : p < w.heap.size := (Array.getElem?_eq_some_iff.1 h0).1
  have hi0 := hi w (Below.refl _ _) (Lib.OthersKept.refl _ _ _)
  have hxl := hi0.1
  have HI := Lib.hid hi
  have HX := Lib.hid hx
  have H0 := Lib.hid h0
  have c0 := cell_of_one h0
  have f0 := free_of_one h0
  clear hi0 hi hx h0
  go_enter Tryd.func52, Tryd.ntmps52
  go_wp2_with (go_at_call 51; refine (put_cap B (n : Int) (okN_nat (by omega)) sv bs _ hown (by omega) (by omega)).mono ?_; rintro r w1 ⟨A1, l1, e1, rfl, hown1, hb1, hk1⟩; have c1 := cell_of_one (cap_kept H0.out hk1); have f1 := free_of_one (cap_kept H0.out hk1))
  have H1 := Lib.hid (cap_kept H0.out hk1)
  clear c0 f0
  have hb2 : Below B w (w1.setCell ⟨p, 0, none⟩ (.slice A1 l1 e1)) := hb1.setCell hp _
  have hk2 : Lib.OthersKept 5 (some p) w (w1.setCell ⟨p, 0, none⟩ (.slice A1 l1 e1)) := (OthersKept.some p hk1).setCell _ rfl _
  have hcap2 : CapAt (w1.setCell ⟨p, 0, none⟩ (.slice A1 l1 e1)) B p (bs ++ putV n) := CapAt.put H1.out hown1
  have HB2 := Lib.hid hb2
  have HK2 := Lib.hid hk2
  have HC2 := Lib.hid hcap2
  clear hb2 hk2 hcap2 c1 f1 H1 hb1 hk1 hown1
  go_loopw [11] (fun i wr => ∃ k : Nat, k ≤ n ∧ i = .int .i64 k ∧ CapAt wr B p (bs ++ putV n ++ numsV (xs.take k)) ∧ Below B w wr ∧ Lib.OthersKept 5 (some p) w wr) (fun i _ => n - (intOf i).toNat)
  case atStart => exact ⟨0, Nat.zero_le _, rfl, by simpa [numsV] using HC2.out, HB2.out, HK2.out⟩
  case round =>
    obtain ⟨k, hk, rfl, hcap, hb, hkk⟩ := hrel
    have hlen : (bs ++ putV n ++ numsV (xs.take k)).length ≤ 200000 := by
      have h1 := take_numsV_len HX.out k
      have h2 := putV_len (okN_nat (n := n) (by omega))
      simp only [List.length_append]
      omega
    have HB := Lib.hid hb
    have HK := Lib.hid hkk
    have hsz : B ≤ wr.heap.size := by have := hb.size; omega
    have hiw := HI.out wr hb hkk
    clear hb hkk
    by_cases hlt : k < n
    · obtain ⟨b, o, rfl, hc⟩ := hiw.2 (by omega)
      have hck := hc k hlt
      have ht := take_numsV hxl k hlt
      have hok := getD_ok HX.out k
      obtain ⟨x, hx⟩ : ∃ x, x = xs.getD k 0 := ⟨_, rfl⟩
      rw [← hx] at hck ht hok
      obtain ⟨acc, hacc⟩ : ∃ acc, acc = bs ++ putV n ++ numsV (xs.take k) := ⟨_, rfl⟩
      have HT : Hid (bs ++ putV n ++ numsV (xs.take (k + 1)) = acc ++ putV x) := by
        apply Lib.hid
        rw [ht, hacc, ← List.append_assoc]
      rw [← hacc] at hcap hlen
      obtain ⟨sv1, g0, hown2⟩ := hcap
      have G0 := Lib.hid g0
      have d0 := cell_of_one g0
      have HOK := Lib.hid hok
      clear g0 ht hc hiw hx hacc hok
      go_wp2_with (go_at_call 51; refine (put_cap B x HOK.out sv1 acc _ hown2 hsz (by omega)).mono ?_; rintro r w3 ⟨A3, l3, e3, rfl, hown3, hb3, hk3⟩; have c3 := cell_of_one (cap_kept G0.out hk3); have f3 := free_of_one (cap_kept G0.out hk3))
      have H3 := Lib.hid (cap_kept G0.out hk3)
      have HB3 := Lib.hid hb3
      have HK3 := Lib.hid hk3
      clear d0 hb3 hk3
      go_roundw
      case rel => exact ⟨k + 1, by omega, by go_num, by rw [HT.out]; exact CapAt.put H3.out hown3, (HB.out.trans HB3.out).setCell hp _, (HK.out.trans (OthersKept.some p HK3.out)).setCell _ rfl _⟩
      case measure => simp [intOf]; omega
    · go_wp2
      go_end0
      have : k = n := by omega
      subst this
      refine ⟨rfl, ?_, HB.out, HK.out⟩
      rw [List.take_of_length_le (by omega)] at hcap
      unfold listV
      rw [hxl, ← List.append_assoc]
      exact hcap
theorem infoI64 : (Tryd.prog.info? 2).map (fun i => (i.zero, i.size, i.bytes)) = some (some (.int .i64 0), 1, 8) := by kernel_rfl
/-- What the call owns, read as ints. -/
theorem own_ints {w : World} {B n : Nat} {e : TypeId} {A : Option Addr} {l c : Nat} {xs : List Int} (h : w.ownsRow B e 1 (.slice A l c) n (xs.map (Value.int .i64))) : n = l ∧ IntsAt w A n xs ∧ (0 < n → ∃ b C, A = some ⟨b, 0, none⟩ ∧ w.heap[b]? = some (.cells C e (0, 0))) := by
  obtain ⟨h1, h2⟩ := h
  have hl : xs.length = n := by simpa using h1
  rcases h2 with ⟨hv, hn⟩ | ⟨g, cap, cur, hv, hb, hgg, hle, hm, hs, ht⟩
  · cases hv
    exact ⟨hn, ⟨hl, fun h => absurd h (by omega)⟩, fun h => absurd h (by omega)⟩
  · cases hv
    refine ⟨rfl, ⟨hl, fun hn => ⟨g, 0, rfl, fun j hj => ?_⟩⟩, fun hn => ⟨g, cur, rfl, hgg⟩⟩
    have hj2 : (xs.map (Value.int .i64))[j]? = some (.int .i64 (xs.getD j 0)) := by
      rw [List.getElem?_map, List.getD_eq_getElem?_getD, List.getElem?_eq_getElem (by omega)]
      rfl
    rw [← ht, List.getElem?_take] at hj2
    split at hj2
    · rw [Nat.zero_add, cell_of_row w g j cur e (0, 0) hgg]
      simpa using hj2
    · cases hj2
set_option maxHeartbeats 2000000 in
set_option maxRecDepth 100000 in
theorem wide_any (A : Option Addr) (n c : Nat) (xs : List Int) (w : World) (hi : IntsAt w A n xs) (hn : n ≤ 4000) :
    Calls Tryd.prog 53 #[.slice A n c] w fun r w' => ∃ A' l' c', r = .returned (.slice A' l' c') ∧ w'.ownsRow w.heap.size 2 1 (.slice A' l' c') n (xs.map (Value.int .i64)) ∧ Below w.heap.size w w' := by
  obtain ⟨i0, hi0, hz0, hz1, hz2⟩ := info_parts infoI64
  have hxl := hi.1
  have HI := Lib.hid hi
  clear hi
  go_enter Tryd.func53, Tryd.ntmps53
  go_wp2
  go_loopw [3, 8] (fun v i wr => ∃ k : Nat, k ≤ n ∧ i = .int .i64 k ∧ wr.ownsRow w.heap.size 2 1 v k ((xs.take k).map (Value.int .i64)) ∧ Below w.heap.size w wr) (fun _ i _ => n - (intOf i).toNat)
  case atStart => exact ⟨0, Nat.zero_le _, rfl, by simpa using World.ownsRow_nil _ _ _ _, Below.refl _ _⟩
  case round =>
    obtain ⟨k, hk, rfl, hown, hb⟩ := hrel
    by_cases hlt : k < n
    · obtain ⟨b, o, rfl, hc⟩ := (HI.out.up hb).2 (by omega)
      have hck := hc k hlt
      have ht : (xs.take (k + 1)).map (Value.int .i64) = (xs.take k).map (Value.int .i64) ++ [Value.int .i64 (xs.getD k 0)] := by
        rw [List.take_succ_eq_append_getElem (by omega), List.map_append, List.getD_eq_getElem?_getD, List.getElem?_eq_getElem (by omega)]
        rfl
      obtain ⟨x, hx⟩ : ∃ x, x = xs.getD k 0 := ⟨_, rfl⟩
      obtain ⟨ys, hys⟩ : ∃ ys, ys = (xs.take k).map (Value.int .i64) := ⟨_, rfl⟩
      rw [← hx] at hck ht
      rw [← hys] at ht hown
      have HT := Lib.hid ht
      clear ht hc hx hys
      go_wp2_with (at_builtin; refine wpList_append_own _ rfl _ _ 22 rfl w.heap.size 2 i0 (.int .i64 0) 1 8 Tryd.underlying22 hi0 hz0 hz1 hz2 rfl (by decide) _ _ _ rfl (hown.alloc _) ⟨wr.heap.size, 0, none⟩ 1 1 [Value.int .i64 x] rfl rfl ?c1 ?c2 ?c3 ?c4 ?c5 ?_)
      case c1 =>
        intro j u hj
        match j, hj with
        | 0, hj => simp at hj; subst hj; simp [Addr.add]
      case c2 => intro u hu; simp at hu; subst hu; rfl
      case c3 => unfold maxLen; omega
      case c4 => omega
      case c5 => have := hb.size; simp; omega
      intro v' w1 hown' hgrow _
      have hb1 : Below w.heap.size w w1 := (hb.alloc (by have := hb.size; omega) _).grown hgrow (by have := hb.size; simp; omega) (fun k hk => (hown.lt k hk).1)
      have HB1 := Lib.hid hb1
      clear hb1 hgrow
      go_wp2
      go_roundw
      case rel => exact ⟨k + 1, by omega, by go_num, by rw [HT.out]; exact hown', HB1.out⟩
      case measure => simp [intOf]; omega
    · have : k = n := by omega
      subst this
      rw [List.take_of_length_le (by omega)] at hown
      obtain ⟨A', c', rfl⟩ := own_slice hown
      go_wp2
      go_ret
      exact ⟨A', _, c', rfl, hown, hb⟩
end Go.Proofs.YtgglbjniclkkpaaDoor

/-
  The longest rises of a list of numbers, plain: no program in sight.
-/
import Derived.Test.YtcfhncckeedipaaTurnP
namespace Go.Proofs.Ytcfhncckeedipaa
set_option linter.unusedSimpArgs false
set_option linter.unusedVariables false

/-- The longest rise that ends with number i, where only the first k numbers may come before it; R: the rises before. -/
def riseTo (L R : List Int) (i : Nat) : Nat → Int
  | 0 => 1
  | k + 1 => if L.getD k 0 < L.getD i 0 then max (riseTo L R i k) (R.getD k 0 + 1) else riseTo L R i k
def risesTo (L : List Int) : Nat → List Int
  | 0 => []
  | i + 1 => risesTo L i ++ [riseTo L (risesTo L i) i i]
def risesL (L : List Int) : List Int := risesTo L L.length

theorem risesTo_len (L : List Int) (i : Nat) : (risesTo L i).length = i := by
  induction i with
  | zero => rfl
  | succ i ih => simp [risesTo, ih]

theorem riseTo_lo (L R : List Int) (i k : Nat) : 1 ≤ riseTo L R i k := by
  induction k with
  | zero => simp [riseTo]
  | succ k ih => unfold riseTo; split <;> omega

theorem riseTo_hi (L R : List Int) (i : Nat) (B : Int) (hB : 0 ≤ B) (hR : ∀ j, R.getD j 0 ≤ B) (k : Nat) : riseTo L R i k ≤ B + 1 := by
  induction k with
  | zero => simp [riseTo]; omega
  | succ k ih => have := hR k; unfold riseTo; split <;> omega

theorem risesTo_hi (L : List Int) (i : Nat) : ∀ j, (risesTo L i).getD j 0 ≤ i := by
  induction i with
  | zero => simp [risesTo]
  | succ i ih =>
    intro j
    have h := riseTo_hi L (risesTo L i) i i (by omega) ih i
    rcases Nat.lt_trichotomy j i with hj | hj | hj
    · have := ih j
      simp only [risesTo, List.getD_eq_getElem?_getD] at *
      rw [List.getElem?_append_left (by rw [risesTo_len]; exact hj)]
      omega
    · subst hj
      simp only [risesTo, List.getD_eq_getElem?_getD]
      rw [List.getElem?_append_right (by rw [risesTo_len]; omega), risesTo_len]
      simp
      omega
    · simp only [risesTo, List.getD_eq_getElem?_getD]
      rw [List.getElem?_eq_none (by simp [risesTo_len]; omega)]
      simp
      omega

theorem risesTo_lo (L : List Int) (i : Nat) : ∀ j, 0 ≤ (risesTo L i).getD j 0 := by
  induction i with
  | zero => simp [risesTo]
  | succ i ih =>
    intro j
    have h := riseTo_lo L (risesTo L i) i i
    rcases Nat.lt_trichotomy j i with hj | hj | hj
    · have := ih j
      simp only [risesTo, List.getD_eq_getElem?_getD] at *
      rw [List.getElem?_append_left (by rw [risesTo_len]; exact hj)]
      omega
    · subst hj
      simp only [risesTo, List.getD_eq_getElem?_getD]
      rw [List.getElem?_append_right (by rw [risesTo_len]; omega), risesTo_len]
      simp
      omega
    · simp only [risesTo, List.getD_eq_getElem?_getD]
      rw [List.getElem?_eq_none (by simp [risesTo_len]; omega)]
      simp

theorem riseTo_yes {L R : List Int} {i q : Nat} (hq : q < L.length) (hi : i < L.length) (hR : q < R.length) (h : L[q] < L[i]) : riseTo L R i (q + 1) = max (riseTo L R i q) (R[q] + 1) := by
  simp [riseTo, List.getD_eq_getElem?_getD, hq, hi, hR, h]
theorem riseTo_no {L R : List Int} {i q : Nat} (hq : q < L.length) (hi : i < L.length) (h : ¬ L[q] < L[i]) : riseTo L R i (q + 1) = riseTo L R i q := by
  simp [riseTo, List.getD_eq_getElem?_getD, hq, hi, h]
theorem risesTo_at_hi (L : List Int) (i j : Nat) (hj : j < (risesTo L i).length) : (risesTo L i)[j] ≤ i := by
  have := risesTo_hi L i j
  simpa [List.getD_eq_getElem?_getD, hj] using this
theorem risesTo_at_lo (L : List Int) (i j : Nat) (hj : j < (risesTo L i).length) : 0 ≤ (risesTo L i)[j] := by
  have := risesTo_lo L i j
  simpa [List.getD_eq_getElem?_getD, hj] using this

/-- The row of rises while number i is worked on. -/
def riseRow (L : List Int) (i q : Nat) : List Int := risesTo L i ++ riseTo L (risesTo L i) i q :: List.replicate (L.length - (i + 1)) 0
theorem riseRow_len (L : List Int) (i q : Nat) (hi : i < L.length) : (riseRow L i q).length = L.length := by simp [riseRow, risesTo_len]; omega
theorem riseRow_start (L : List Int) (i : Nat) (hi : i < L.length) : (risesTo L i ++ List.replicate (L.length - i) 0).set i 1 = riseRow L i 0 := by
  have e : L.length - i = (L.length - (i + 1)) + 1 := by omega
  rw [List.set_append_right _ _ (by rw [risesTo_len]; omega), risesTo_len, e, List.replicate_succ]
  simp [riseRow, riseTo]
theorem riseRow_set (L : List Int) (i q q' : Nat) (x : Int) (hx : x = riseTo L (risesTo L i) i q') : (riseRow L i q).set i x = riseRow L i q' := by
  subst hx
  unfold riseRow
  rw [List.set_append_right _ _ (by rw [risesTo_len]; omega), risesTo_len]
  simp
theorem riseRow_end (L : List Int) (i : Nat) : riseRow L i i = risesTo L (i + 1) ++ List.replicate (L.length - (i + 1)) 0 := by simp [riseRow, risesTo]
theorem riseRow_at (L : List Int) (i q j : Nat) (hj : j < i) (h : j < (riseRow L i q).length) : (riseRow L i q)[j] = (risesTo L i)[j]'(by rw [risesTo_len]; exact hj) := by
  exact List.getElem_append_left (by rw [risesTo_len]; exact hj)
theorem riseRow_self (L : List Int) (i q : Nat) (h : i < (riseRow L i q).length) : (riseRow L i q)[i] = riseTo L (risesTo L i) i q := by
  exact (List.getElem_append_right (by rw [risesTo_len]; omega)).trans (by simp [risesTo_len])

/-- The greatest number of the first k, at least 0. -/
def topTo (L : List Int) (k : Nat) : Int := (L.take k).foldl max 0
def top (L : List Int) : Int := L.foldl max 0
theorem topTo_zero (L : List Int) : topTo L 0 = 0 := by simp [topTo]
theorem topTo_succ (L : List Int) (k : Nat) (hk : k < L.length) : topTo L (k + 1) = max (topTo L k) L[k] := by
  unfold topTo
  rw [List.take_succ_eq_append_getElem hk, List.foldl_append]
  rfl
theorem topTo_all (L : List Int) (k : Nat) (hk : L.length ≤ k) : topTo L k = top L := by
  unfold topTo top
  rw [List.take_of_length_le hk]
theorem foldl_max_ge (L : List Int) : ∀ a : Int, a ≤ L.foldl max a ∧ ∀ x ∈ L, x ≤ L.foldl max a := by
  induction L with
  | nil => simp
  | cons b L ih =>
    intro a
    simp only [List.foldl_cons]
    have := ih (max a b)
    refine ⟨by omega, fun x hx => ?_⟩
    rcases List.mem_cons.1 hx with rfl | hx
    · omega
    · exact this.2 x hx
theorem foldl_max_mem (L : List Int) : ∀ a : Int, L.foldl max a = a ∨ L.foldl max a ∈ L := by
  induction L with
  | nil => simp
  | cons b L ih =>
    intro a
    simp only [List.foldl_cons]
    rcases ih (max a b) with h | h
    · rw [h]
      by_cases hab : a ≤ b
      · right; rw [show max a b = b by omega]; simp
      · left; omega
    · right; simp [h]
theorem top_ge (L : List Int) (x : Int) (hx : x ∈ L) : x ≤ top L := (foldl_max_ge L 0).2 x hx
theorem top_nonneg (L : List Int) : 0 ≤ top L := (foldl_max_ge L 0).1
theorem top_mem (L : List Int) (h : 0 < top L) : top L ∈ L := by
  rcases foldl_max_mem L 0 with h1 | h1
  · unfold top at h; omega
  · exact h1
theorem topTo_le (L : List Int) (k : Nat) (B : Int) (h0 : 0 ≤ B) (h : ∀ x ∈ L, x ≤ B) : topTo L k ≤ B := by
  rcases foldl_max_mem (L.take k) 0 with h1 | h1
  · unfold topTo; omega
  · exact h _ (List.mem_of_mem_take h1)
theorem topTo_nonneg (L : List Int) (k : Nat) : 0 ≤ topTo L k := (foldl_max_ge (L.take k) 0).1

theorem risesTo_prefix (L : List Int) (i j : Nat) (hj : j < i) : ∀ n, i ≤ n → (risesTo L n).getD j 0 = (risesTo L i).getD j 0 := by
  intro n hn
  induction n with
  | zero => omega
  | succ n ih =>
    by_cases h : i = n + 1
    · rw [h]
    · rw [← ih (by omega)]
      simp only [risesTo, List.getD_eq_getElem?_getD]
      rw [List.getElem?_append_left (by rw [risesTo_len]; omega)]
theorem risesL_at (L : List Int) (i : Nat) (hi : i < L.length) : (risesL L).getD i 0 = riseTo L (risesTo L i) i i := by
  unfold risesL
  rw [risesTo_prefix L (i + 1) i (by omega) L.length (by omega)]
  simp only [risesTo, List.getD_eq_getElem?_getD]
  rw [List.getElem?_append_right (by rw [risesTo_len]; omega), risesTo_len]
  simp
theorem risesL_len (L : List Int) : (risesL L).length = L.length := risesTo_len _ _
theorem risesL_lo (L : List Int) (i : Nat) (hi : i < L.length) : 1 ≤ (risesL L).getD i 0 := by rw [risesL_at L i hi]; exact riseTo_lo _ _ _ _
theorem risesL_mem (L : List Int) (x : Int) (hx : x ∈ risesL L) : 1 ≤ x ∧ x ≤ L.length := by
  obtain ⟨i, hi, rfl⟩ := List.getElem_of_mem hx
  have h1 := risesL_lo L i (by rw [← risesL_len]; exact hi)
  have h2 := risesTo_hi L L.length i
  unfold risesL at *
  rw [List.getD_eq_getElem?_getD, List.getElem?_eq_getElem hi] at h1 h2
  exact ⟨h1, h2⟩

theorem riseTo_pred (L R : List Int) (i k : Nat) (h : 1 < riseTo L R i k) : ∃ j, j < k ∧ L.getD j 0 < L.getD i 0 ∧ R.getD j 0 + 1 = riseTo L R i k := by
  induction k with
  | zero => simp [riseTo] at h
  | succ k ih =>
    unfold riseTo at h ⊢
    split at h
    · rename_i hlt
      rw [if_pos hlt]
      by_cases hm : riseTo L R i k < R.getD k 0 + 1
      · exact ⟨k, by omega, hlt, by omega⟩
      · obtain ⟨j, hj, h1, h2⟩ := ih (by omega)
        exact ⟨j, by omega, h1, by omega⟩
    · rename_i hlt
      rw [if_neg hlt]
      obtain ⟨j, hj, h1, h2⟩ := ih h
      exact ⟨j, by omega, h1, h2⟩
/-- A rise of n + 1 comes after one of n. -/
theorem rise_pred (L : List Int) (i : Nat) (hi : i < L.length) (h : 1 < (risesL L).getD i 0) : ∃ j, j < i ∧ L.getD j 0 < L.getD i 0 ∧ (risesL L).getD j 0 + 1 = (risesL L).getD i 0 := by
  rw [risesL_at L i hi] at h ⊢
  obtain ⟨j, hj, h1, h2⟩ := riseTo_pred _ _ _ _ h
  refine ⟨j, hj, h1, ?_⟩
  unfold risesL
  rw [risesTo_prefix L i j hj L.length (by omega)]
  exact h2

/-- The first index at which a rise of this length ends with a number below the limit. -/
def fitsAt (L R : List Int) (want lim : Int) (i : Nat) : Prop := R.getD i 0 = want ∧ L.getD i 0 < lim
instance (L R : List Int) (want lim : Int) (i : Nat) : Decidable (fitsAt L R want lim i) := by unfold fitsAt; infer_instance
def pick (L R : List Int) (want lim : Int) : Option Nat := (List.range L.length).find? fun i => decide (fitsAt L R want lim i)
theorem pick_some {L R : List Int} {want lim : Int} {k : Nat} : pick L R want lim = some k ↔ k < L.length ∧ fitsAt L R want lim k ∧ ∀ j, j < k → ¬ fitsAt L R want lim j := by
  unfold pick
  rw [List.find?_range_eq_some]
  simp [and_left_comm]
theorem pick_ex {L R : List Int} {want lim : Int} {k : Nat} (hk : k < L.length) (h : fitsAt L R want lim k) : ∃ i, pick L R want lim = some i ∧ i ≤ k := by
  cases hp : pick L R want lim with
  | none =>
    unfold pick at hp
    rw [List.find?_eq_none] at hp
    exact absurd h (by simpa using hp k (by simpa using hk))
  | some i =>
    refine ⟨i, rfl, ?_⟩
    have := (pick_some.1 hp).2.2 k
    rcases Nat.lt_or_ge k i with h1 | h1
    · exact absurd h (this h1)
    · exact h1

def chain (L R : List Int) : Nat → Int → List Nat
  | 0, _ => []
  | n + 1, lim => match pick L R (n + 1) lim with
    | some i => i :: chain L R n (L.getD i 0)
    | none => []
def riseIdx (L : List Int) : List Nat := (chain L (risesL L) (top (risesL L)).toNat L.length).reverse

theorem drop_rev (C : List Int) (j : Nat) (hj : j < C.length) : (C.drop j).reverse = (C.drop (j + 1)).reverse ++ [C[j]] := by
  rw [List.drop_eq_getElem_cons hj, List.reverse_cons]

/-- What LongestRise answers. -/
def riseOut (L : List Int) : List Int := if vtB L = true then (riseIdx L).map Int.ofNat else []
theorem riseOut_t {L : List Int} (h : vtB L = true) : riseOut L = (riseIdx L).map Int.ofNat := by simp [riseOut, h]
theorem riseOut_f {L : List Int} (h : vtB L = false) : riseOut L = [] := by simp [riseOut, h]
theorem riseIdx_nil : riseIdx [] = [] := by simp [riseIdx, risesL, risesTo, top, chain]

theorem chain_some {L R : List Int} {n : Nat} {lim : Int} {i : Nat} (h : pick L R (n + 1) lim = some i) : chain L R (n + 1) lim = i :: chain L R n (L.getD i 0) := by
  simp only [chain, h]

theorem chain_ok (L : List Int) : ∀ (n : Nat) (lim : Int), (0 < n → ∃ i, pick L (risesL L) n lim = some i) → (chain L (risesL L) n lim).length = n := by
  intro n
  induction n with
  | zero => intro lim _; rfl
  | succ n ih =>
    intro lim h
    obtain ⟨i, hi⟩ := h (by omega)
    rw [show ((n + 1 : Nat) : Int) = (n : Int) + 1 by omega] at hi
    rw [chain_some hi, List.length_cons, ih]
    intro hn
    obtain ⟨h1, h2, _⟩ := pick_some.1 hi
    obtain ⟨j, hj, hj1, hj2⟩ := rise_pred L i h1 (by rw [h2.1]; omega)
    obtain ⟨k, hk, _⟩ := pick_ex (R := risesL L) (want := n) (lim := L.getD i 0) (show j < L.length by omega) ⟨by rw [h2.1] at hj2; omega, hj1⟩
    exact ⟨k, hk⟩

/-- What comes before a picked index. -/
theorem pick_next (L : List Int) {n : Nat} {lim : Int} {i : Nat} (hi : pick L (risesL L) (n + 1) lim = some i) (hn : 0 < n) : ∃ k, pick L (risesL L) n (L.getD i 0) = some k ∧ k < i := by
  obtain ⟨h1, h2, _⟩ := pick_some.1 hi
  obtain ⟨j, hj, hj1, hj2⟩ := rise_pred L i h1 (by rw [h2.1]; omega)
  obtain ⟨k, hk, hk2⟩ := pick_ex (R := risesL L) (want := n) (lim := L.getD i 0) (show j < L.length by omega) ⟨by rw [h2.1] at hj2; omega, hj1⟩
  exact ⟨k, hk, by omega⟩

/-- The last index taken, going back, and the limit that it sets. -/
def lastIs (L : List Int) (k : Nat) (l : Int) (C : List Nat) : Prop :=
  (C = [] ∧ l = L.length) ∨ ∃ C' p, C = C' ++ [p] ∧ p < L.length ∧ l = L.getD p 0 ∧ ∀ i, pick L (risesL L) k l = some i → i < p
theorem lastIs_next {L : List Int} {k : Nat} {l : Int} {i : Nat} (C : List Nat) (h : pick L (risesL L) (k + 1) l = some i) : lastIs L k (L.getD i 0) (C ++ [i]) := by
  refine .inr ⟨C, i, rfl, (pick_some.1 h).1, rfl, fun j hj => ?_⟩
  rcases Nat.eq_zero_or_pos k with h0 | h0
  · subst h0
    obtain ⟨h1, h2, _⟩ := pick_some.1 hj
    have := risesL_lo L j h1
    have := h2.1
    omega
  · obtain ⟨k', hk', hlt⟩ := pick_next L h h0
    rw [hk'] at hj
    injection hj with hj
    omega

theorem pick_top (L : List Int) (hv : VT L) (hL : 0 < L.length) : ∃ i, pick L (risesL L) (top (risesL L)) L.length = some i := by
  have h1 : 0 < top (risesL L) := by
    have hm : (risesL L)[0]'(by rw [risesL_len]; exact hL) ∈ risesL L := List.getElem_mem _
    have := top_ge _ _ hm
    have := (risesL_mem L _ hm).1
    omega
  obtain ⟨i, hi, he⟩ := List.getElem_of_mem (top_mem _ h1)
  have hi' : i < L.length := by rw [← risesL_len]; exact hi
  obtain ⟨k, hk, _⟩ := pick_ex (L := L) (R := risesL L) (want := top (risesL L)) (lim := L.length) hi' ⟨by rw [List.getD_eq_getElem?_getD, List.getElem?_eq_getElem hi]; exact he, by
    rw [List.getD_eq_getElem?_getD, List.getElem?_eq_getElem hi']
    exact (hv.2.range i hi').2⟩
  exact ⟨k, hk⟩
theorem top_le (L : List Int) : top (risesL L) ≤ L.length := by
  rw [← topTo_all (risesL L) (risesL L).length (Nat.le_refl _)]
  exact topTo_le _ _ _ (by omega) (fun x hx => (risesL_mem L x hx).2)

end Go.Proofs.Ytcfhncckeedipaa

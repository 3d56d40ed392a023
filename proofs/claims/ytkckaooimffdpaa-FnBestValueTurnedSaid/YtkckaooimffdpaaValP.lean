/-
  The greatest value of glass, by its sides: as a recursion with fuel; wider, twice as wide, doubled, turned; tables of it. No program in sight.
-/
import Derived.Test.YtkckaooimffdpaaFits
namespace Go.Proofs.Ytkckaooimffdpaa
set_option linter.unusedSimpArgs false
set_option linter.unusedVariables false
open Go.RowKit

/-- The greatest of b and g 1 .. g k. -/
def mxo (g : Nat → Int) (b : Int) : Nat → Int
  | 0 => b
  | k + 1 => max (mxo g b k) (g (k + 1))
theorem mxo_congr {g g' : Nat → Int} {b : Int} : ∀ k, (∀ i, 1 ≤ i → i ≤ k → g i = g' i) → mxo g b k = mxo g' b k
  | 0, _ => rfl
  | k + 1, h => by rw [mxo, mxo, mxo_congr k (fun i h1 h2 => h i h1 (by omega)), h (k + 1) (by omega) (by omega)]
theorem mxo_base (g : Nat → Int) (b : Int) : ∀ k, b ≤ mxo g b k
  | 0 => Int.le_refl _
  | k + 1 => by have := mxo_base g b k; simp only [mxo]; omega
theorem mxo_ge (g : Nat → Int) (b : Int) : ∀ k i, 1 ≤ i → i ≤ k → g i ≤ mxo g b k
  | 0, i, h1, h2 => by omega
  | k + 1, i, h1, h2 => by
    simp only [mxo]
    by_cases e : i = k + 1
    · subst e; omega
    · have := mxo_ge g b k i h1 (by omega); omega
theorem mxo_le {g : Nat → Int} {b c : Int} (hb : b ≤ c) : ∀ k, (∀ i, 1 ≤ i → i ≤ k → g i ≤ c) → mxo g b k ≤ c
  | 0, _ => hb
  | k + 1, h => by
    have h1 := mxo_le hb k (fun i h1 h2 => h i h1 (by omega))
    have h2 := h (k + 1) (by omega) (by omega)
    simp only [mxo]; omega
theorem mxo_two {g g' : Nat → Int} {b b' : Int} (hb : b' = 2 * b) : ∀ k, (∀ i, 1 ≤ i → i ≤ k → g' i = 2 * g i) → mxo g' b' k = 2 * mxo g b k
  | 0, _ => hb
  | k + 1, h => by
    have h1 := mxo_two hb k (fun i h1 h2 => h i h1 (by omega))
    have h2 := h (k + 1) (by omega) (by omega)
    simp only [mxo]; omega
theorem mxo_max (g : Nat → Int) (a b : Int) : ∀ k, mxo g (max a b) k = max (mxo g a k) b
  | 0 => rfl
  | k + 1 => by rw [mxo, mxo, mxo_max g a b k]; omega
theorem mxo_swap (g g' : Nat → Int) (b : Int) (n : Nat) : ∀ k, mxo g (mxo g' b n) k = mxo g' (mxo g b k) n
  | 0 => rfl
  | k + 1 => by rw [mxo, mxo_swap g g' b n k, mxo, mxo_max]

def bvF (lf : Nat → Nat → Int) : Nat → Nat → Nat → Int
  | 0, _, _ => 0
  | n + 1, w, h => mxo (fun y => bvF lf n w y + bvF lf n w (h - y)) (mxo (fun x => bvF lf n x h + bvF lf n (w - x) h) (lf w h) (w / 2)) (h / 2)
def bv (lf : Nat → Nat → Int) (w h : Nat) : Int := bvF lf (w + h) w h
theorem bvF_fuel (lf : Nat → Nat → Int) : ∀ n m w h, 1 ≤ w → 1 ≤ h → w + h ≤ n → w + h ≤ m → bvF lf n w h = bvF lf m w h
  | 0, m, w, h, hw, hh, hn, hm => by omega
  | n + 1, 0, w, h, hw, hh, hn, hm => by omega
  | n + 1, m + 1, w, h, hw, hh, hn, hm => by
    simp only [bvF]
    rw [mxo_congr (g := fun x => bvF lf n x h + bvF lf n (w - x) h) (g' := fun x => bvF lf m x h + bvF lf m (w - x) h) (b := lf w h) (w / 2) (fun i h1 h2 => by
      show bvF lf n i h + bvF lf n (w - i) h = bvF lf m i h + bvF lf m (w - i) h
      rw [bvF_fuel lf n m i h h1 hh (by omega) (by omega), bvF_fuel lf n m (w - i) h (by omega) hh (by omega) (by omega)])]
    exact mxo_congr (h / 2) (fun i h1 h2 => by
      show bvF lf n w i + bvF lf n w (h - i) = bvF lf m w i + bvF lf m w (h - i)
      rw [bvF_fuel lf n m w i hw h1 (by omega) (by omega), bvF_fuel lf n m w (h - i) hw (by omega) (by omega) (by omega)])
theorem bv_eq (lf : Nat → Nat → Int) {w h : Nat} (hw : 1 ≤ w) (hh : 1 ≤ h) : bv lf w h = mxo (fun y => bv lf w y + bv lf w (h - y)) (mxo (fun x => bv lf x h + bv lf (w - x) h) (lf w h) (w / 2)) (h / 2) := by
  obtain ⟨n, hn⟩ : ∃ n, w + h = n + 1 := ⟨w + h - 1, by omega⟩
  unfold bv
  rw [hn, bvF]
  rw [mxo_congr (g := fun x => bvF lf n x h + bvF lf n (w - x) h) (g' := fun x => bvF lf (x + h) x h + bvF lf (w - x + h) (w - x) h) (b := lf w h) (w / 2) (fun i h1 h2 => by
    show bvF lf n i h + bvF lf n (w - i) h = bvF lf (i + h) i h + bvF lf (w - i + h) (w - i) h
    rw [bvF_fuel lf n (i + h) i h h1 hh (by omega) (by omega), bvF_fuel lf n (w - i + h) (w - i) h (by omega) hh (by omega) (by omega)])]
  exact mxo_congr (h / 2) (fun i h1 h2 => by
    show bvF lf n w i + bvF lf n w (h - i) = bvF lf (w + i) w i + bvF lf (w + (h - i)) w (h - i)
    rw [bvF_fuel lf n (w + i) w i hw h1 (by omega) (by omega), bvF_fuel lf n (w + (h - i)) w (h - i) hw (by omega) (by omega) (by omega)])
theorem bvF_lo {lf : Nat → Nat → Int} (hl : ∀ x y, 0 ≤ lf x y) : ∀ n w h, 0 ≤ bvF lf n w h
  | 0, _, _ => Int.le_refl _
  | n + 1, w, h => Int.le_trans (Int.le_trans (hl w h) (mxo_base _ _ _)) (mxo_base _ _ _)
theorem bvF_hi {lf : Nat → Nat → Int} {c : Int} (h0 : 0 ≤ c) (hl : ∀ x y, lf x y ≤ c) : ∀ n w h, bvF lf n w h ≤ c * 2 ^ n
  | 0, _, _ => by simp [bvF]; exact h0
  | n + 1, w, h => by
    have hp : (0 : Int) < 2 ^ n := Int.pow_pos (by omega)
    have h1 : c ≤ c * 2 ^ n := by have := Int.mul_le_mul_of_nonneg_left (show (1 : Int) ≤ 2 ^ n by omega) h0; omega
    have h2 : c * 2 ^ (n + 1) = c * 2 ^ n + c * 2 ^ n := by rw [Int.pow_succ]; rw [← Int.mul_assoc]; omega
    have ih := bvF_hi h0 hl n
    simp only [bvF]
    refine mxo_le (mxo_le (by have := hl w h; omega) _ (fun i _ _ => ?_)) _ (fun i _ _ => ?_)
    · have a := ih i h; have b := ih (w - i) h; omega
    · have a := ih w i; have b := ih w (h - i); omega
theorem bv_bd {lf : Nat → Nat → Int} (hl : ∀ x y, 0 ≤ lf x y ∧ lf x y ≤ 1000) {w h : Nat} (hs : w + h ≤ 32) : 0 ≤ bv lf w h ∧ bv lf w h ≤ 4294967296000 := by
  refine ⟨bvF_lo (fun x y => (hl x y).1) _ _ _, ?_⟩
  have h1 := bvF_hi (lf := lf) (c := 1000) (by omega) (fun x y => (hl x y).2) (w + h) w h
  have h2 : (2 : Int) ^ (w + h) ≤ 2 ^ 32 := by
    have := Nat.pow_le_pow_right (n := 2) (by omega) hs
    exact_mod_cast this
  have h3 : (2 : Int) ^ 32 = 4294967296 := by decide
  unfold bv
  omega
theorem bv_wide {lf : Nat → Nat → Int} (hl : ∀ x y, 0 ≤ lf x y) {w h : Nat} (hw : 1 ≤ w) (hh : 1 ≤ h) : bv lf w h ≤ bv lf (w + 1) h := by
  rw [bv_eq lf (show 1 ≤ w + 1 by omega) hh]
  have h1 := mxo_ge (fun x => bv lf x h + bv lf (w + 1 - x) h) (lf (w + 1) h) ((w + 1) / 2) 1 (by omega) (by omega)
  have h2 : bv lf 1 h + bv lf (w + 1 - 1) h ≤ mxo (fun x => bv lf x h + bv lf (w + 1 - x) h) (lf (w + 1) h) ((w + 1) / 2) := h1
  have h3 : 0 ≤ bv lf 1 h := bvF_lo hl _ _ _
  rw [show w + 1 - 1 = w from rfl] at h2
  exact Int.le_trans (by omega) (mxo_base _ _ _)
theorem bv_twice (lf : Nat → Nat → Int) {w h : Nat} (hw : 1 ≤ w) (hh : 1 ≤ h) : 2 * bv lf w h ≤ bv lf (2 * w) h := by
  rw [bv_eq lf (show 1 ≤ 2 * w by omega) hh]
  have h1 := mxo_ge (fun x => bv lf x h + bv lf (2 * w - x) h) (lf (2 * w) h) (2 * w / 2) w hw (by omega)
  have h2 : bv lf w h + bv lf (2 * w - w) h ≤ mxo (fun x => bv lf x h + bv lf (2 * w - x) h) (lf (2 * w) h) (2 * w / 2) := h1
  rw [show 2 * w - w = w by omega] at h2
  exact Int.le_trans (by omega) (mxo_base _ _ _)
theorem bvF_double {lf lf' : Nat → Nat → Int} (hl : ∀ x y, lf' x y = 2 * lf x y) : ∀ n w h, bvF lf' n w h = 2 * bvF lf n w h
  | 0, _, _ => rfl
  | n + 1, w, h => by
    have ih := bvF_double hl n
    simp only [bvF]
    refine mxo_two (mxo_two (hl w h) _ (fun i _ _ => ?_)) _ (fun i _ _ => ?_)
    · have a := ih i h; have b := ih (w - i) h; omega
    · have a := ih w i; have b := ih w (h - i); omega
theorem bvF_turn {lf lf' : Nat → Nat → Int} (hl : ∀ x y, lf' x y = lf y x) : ∀ n w h, bvF lf' n w h = bvF lf n h w
  | 0, _, _ => rfl
  | n + 1, w, h => by
    have ih := bvF_turn hl n
    simp only [bvF]
    rw [mxo_swap, hl w h]
    simp only [ih]
theorem bv_turn {lf lf' : Nat → Nat → Int} (hl : ∀ x y, lf' x y = lf y x) (w h : Nat) : bv lf' w h = bv lf h w := by
  unfold bv
  rw [bvF_turn hl, Nat.add_comm]

/-- The table under way: done up to width w, and there up to height h. -/
def cellT (lf : Nat → Nat → Int) (H w h i j : Nat) : Int := if 1 ≤ i ∧ 1 ≤ j ∧ j ≤ H ∧ (i < w ∨ (i = w ∧ j < h)) then bv lf i j else 0
theorem cellT_done {lf : Nat → Nat → Int} {H w h i j : Nat} (h1 : 1 ≤ i) (h2 : 1 ≤ j) (h3 : j ≤ H) (h4 : i < w ∨ (i = w ∧ j < h)) : cellT lf H w h i j = bv lf i j := by unfold cellT; rw [if_pos ⟨h1, h2, h3, h4⟩]
theorem cellT_next {lf : Nat → Nat → Int} {H w i j : Nat} : cellT lf H w (H + 1) i j = cellT lf H (w + 1) 1 i j := by
  unfold cellT
  by_cases h : 1 ≤ i ∧ 1 ≤ j ∧ j ≤ H ∧ (i < w + 1 ∨ (i = w + 1 ∧ j < 1))
  · rw [if_pos h, if_pos (by omega)]
  · rw [if_neg h, if_neg (by omega)]
def tabT (lf : Nat → Nat → Int) (H w h : Nat) : List Int := (List.range 289).map fun q => cellT lf H w h (q / 17) (q % 17)
theorem tabT_len (lf : Nat → Nat → Int) (H w h : Nat) : (tabT lf H w h).length = 289 := by simp [tabT]
theorem tabT_at (lf : Nat → Nat → Int) (H w h q : Nat) (hq : q < (tabT lf H w h).length) : (tabT lf H w h)[q] = cellT lf H w h (q / 17) (q % 17) := by simp [tabT]
theorem tabT_ij (lf : Nat → Nat → Int) (H w h : Nat) {i j : Nat} (hi : i < 17) (hj : j < 17) (hq : i * 17 + j < (tabT lf H w h).length) : (tabT lf H w h)[i * 17 + j] = cellT lf H w h i j := by
  rw [tabT_at, show (i * 17 + j) / 17 = i by omega, show (i * 17 + j) % 17 = j by omega]
theorem tabT_start (lf : Nat → Nat → Int) (H : Nat) : List.replicate 289 0 = tabT lf H 1 1 := by
  apply List.ext_getElem
  · rw [List.length_replicate, tabT_len]
  · intro i h1 h2
    rw [tabT_at, List.getElem_replicate]
    unfold cellT
    rw [if_neg (by omega)]
theorem tabT_next (lf : Nat → Nat → Int) (H w : Nat) : tabT lf H w (H + 1) = tabT lf H (w + 1) 1 := by
  unfold tabT
  simp only [cellT_next]
theorem tabT_set {lf : Nat → Nat → Int} {H w h : Nat} (hH : H ≤ 16) (hw : 1 ≤ w) (hh : 1 ≤ h) (h1 : h ≤ H) : (tabT lf H w h).set (w * 17 + h) (bv lf w h) = tabT lf H w (h + 1) := by
  apply List.ext_getElem
  · simp [tabT]
  · intro q h1 h2
    rw [List.getElem_set]
    by_cases e : w * 17 + h = q
    · subst e
      rw [if_pos rfl, tabT_at, show (w * 17 + h) / 17 = w by omega, show (w * 17 + h) % 17 = h by omega, cellT_done (by omega) (by omega) (by omega) (by omega)]
    · rw [if_neg e, tabT_at, tabT_at]
      unfold cellT
      by_cases hc : 1 ≤ q / 17 ∧ 1 ≤ q % 17 ∧ q % 17 ≤ H ∧ (q / 17 < w ∨ (q / 17 = w ∧ q % 17 < h))
      · rw [if_pos hc, if_pos (by omega)]
      · rw [if_neg hc, if_neg (by omega)]
/-- One row of it. -/
def rowT (lf : Nat → Nat → Int) (H w h i : Nat) : List Int := (List.range (H + 1)).map fun j => cellT lf H w h i j
theorem rowT_len (lf : Nat → Nat → Int) (H w h i : Nat) : (rowT lf H w h i).length = H + 1 := by simp [rowT]
theorem rowT_at (lf : Nat → Nat → Int) (H w h i j : Nat) (hj : j < (rowT lf H w h i).length) : (rowT lf H w h i)[j] = cellT lf H w h i j := by simp [rowT]
theorem rowT_start (lf : Nat → Nat → Int) (H w : Nat) : List.replicate (H + 1) 0 = rowT lf H w 1 w := by
  apply List.ext_getElem
  · simp [rowT]
  · intro i h1 h2
    rw [rowT_at, List.getElem_replicate]
    unfold cellT
    rw [if_neg (by omega)]
theorem rowT_next (lf : Nat → Nat → Int) (H w i : Nat) : rowT lf H w (H + 1) i = rowT lf H (w + 1) 1 i := by
  unfold rowT
  simp only [cellT_next]
theorem rowT_zero (lf : Nat → Nat → Int) (H h i : Nat) (hi : i = 0) : rowT lf H 0 h i = rowT lf H 1 1 i := by
  subst hi
  unfold rowT cellT
  simp
theorem rowT_set {lf : Nat → Nat → Int} {H w h : Nat} (hw : 1 ≤ w) (hh : 1 ≤ h) (h1 : h ≤ H) : (rowT lf H w h w).set h (bv lf w h) = rowT lf H w (h + 1) w := by
  apply List.ext_getElem
  · simp [rowT]
  · intro q h1 h2
    rw [List.getElem_set]
    by_cases e : h = q
    · subst e
      rw [if_pos rfl, rowT_at, cellT_done (by omega) (by omega) (by omega) (by omega)]
    · rw [if_neg e, rowT_at, rowT_at]
      unfold cellT
      by_cases hc : 1 ≤ w ∧ 1 ≤ q ∧ q ≤ H ∧ (w < w ∨ (w = w ∧ q < h))
      · rw [if_pos hc, if_pos (by omega)]
      · rw [if_neg hc, if_neg (by omega)]
theorem rowT_other {lf : Nat → Nat → Int} {H w h i : Nat} (hi : i ≠ w) : rowT lf H w h i = rowT lf H w (h + 1) i := by
  unfold rowT cellT
  apply List.map_congr_left
  intro j _
  by_cases hc : 1 ≤ i ∧ 1 ≤ j ∧ j ≤ H ∧ (i < w ∨ (i = w ∧ j < h))
  · rw [if_pos hc, if_pos (by omega)]
  · rw [if_neg hc, if_neg (by omega)]

end Go.Proofs.Ytkckaooimffdpaa

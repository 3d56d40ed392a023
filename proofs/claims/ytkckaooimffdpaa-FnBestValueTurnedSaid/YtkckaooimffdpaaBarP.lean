/-
  Lengths on bars: sums by number, the greatest number, when bars are good; numbering from the other end. No program in sight.
-/
import Derived.Test.YtkckaooimffdpaaWords
namespace Go.Proofs.Ytkckaooimffdpaa
set_option linter.unusedSimpArgs false
set_option linter.unusedVariables false
open Go.RowKit

/-- At most so many lengths, each fits a bar. -/
def BrOk (most : Nat) (L : List Int) (bar : Int) : Prop := (1 ≤ bar ∧ bar ≤ 200) ∧ L.length ≤ most ∧ ∀ x ∈ L, 1 ≤ x ∧ x ≤ bar
instance (most : Nat) (L : List Int) (bar : Int) : Decidable (BrOk most L bar) := by unfold BrOk; infer_instance
def brB (most : Nat) (L : List Int) (bar : Int) : Bool := decide (BrOk most L bar)
theorem brB_iff {most : Nat} {L : List Int} {bar : Int} : brB most L bar = true ↔ BrOk most L bar := by simp [brB]
theorem brB_not {most : Nat} {L : List Int} {bar : Int} : brB most L bar = false ↔ ¬ BrOk most L bar := by simp [brB]

/-- The sum of those of the first k lengths that are on bar j; the greatest number of the first k. -/
def ldk (L G : List Int) : Nat → Int → Int
  | 0, _ => 0
  | k + 1, j => ldk L G k j + if G.getD k 0 = j then L.getD k 0 else 0
def mxk (G : List Int) : Nat → Int
  | 0 => -1
  | k + 1 => max (mxk G k) (G.getD k 0)
def nbk (G : List Int) (k : Nat) : Nat := (mxk G k + 1).toNat
theorem getD_at {α : Type} {L : List α} {k : Nat} (h : k < L.length) (d : α) : L.getD k d = L[k] := by
  rw [List.getD_eq_getElem?_getD, List.getElem?_eq_getElem h]; rfl
theorem mxk_lo (G : List Int) : ∀ k, -1 ≤ mxk G k
  | 0 => by simp [mxk]
  | k + 1 => by have := mxk_lo G k; simp only [mxk]; omega
theorem nbk_eq (G : List Int) (k : Nat) : (nbk G k : Int) = mxk G k + 1 := by have := mxk_lo G k; unfold nbk; omega
theorem mxk_hi {G : List Int} {n : Int} (h0 : 0 ≤ n) : ∀ k, (∀ i, i < k → G.getD i 0 < n) → mxk G k < n
  | 0, _ => by simp [mxk]; omega
  | k + 1, h => by have := mxk_hi h0 k (fun i hi => h i (by omega)); have := h k (by omega); simp only [mxk]; omega
theorem mxk_ge (G : List Int) : ∀ k i, i < k → G.getD i 0 ≤ mxk G k
  | 0, _, h => by omega
  | k + 1, i, h => by
    simp only [mxk]
    by_cases e : i = k
    · subst e; omega
    · have := mxk_ge G k i (by omega); omega
theorem ldk_zero {L G : List Int} {j : Int} : ∀ k, (∀ i, i < k → G.getD i 0 ≠ j) → ldk L G k j = 0
  | 0, _ => rfl
  | k + 1, h => by rw [ldk, ldk_zero k (fun i hi => h i (by omega)), if_neg (h k (by omega))]; rfl
theorem ldk_above {L G : List Int} {k : Nat} {j : Int} (h : mxk G k < j) : ldk L G k j = 0 := ldk_zero k fun i hi e => by have := mxk_ge G k i hi; omega
theorem ldk_bd {L G : List Int} {b : Int} (h : ∀ x ∈ L, 0 ≤ x ∧ x ≤ b) (hb : 0 ≤ b) (j : Int) : ∀ k, 0 ≤ ldk L G k j ∧ ldk L G k j ≤ b * k
  | 0 => by simp [ldk]
  | k + 1 => by
    have h1 := ldk_bd (G := G) h hb j k
    have h2 : 0 ≤ L.getD k 0 ∧ L.getD k 0 ≤ b := by
      by_cases hk : k < L.length
      · rw [getD_at hk]; exact h _ (List.getElem_mem hk)
      · rw [List.getD_eq_getElem?_getD, List.getElem?_eq_none (by omega)]; simp; exact hb
    have h3 : b * ((k + 1 : Nat) : Int) = b * k + b := by push_cast; rw [Int.mul_add, Int.mul_one]
    rw [h3]
    simp only [ldk]
    split <;> omega

/-- The sums of the first m bars. -/
def flR (L G : List Int) (m k : Nat) : List Int := (List.range m).map fun j => ldk L G k (j : Nat)
theorem flR_len (L G : List Int) (m k : Nat) : (flR L G m k).length = m := by simp [flR]
theorem flR_at (L G : List Int) (m k j : Nat) (h : j < (flR L G m k).length) : (flR L G m k)[j] = ldk L G k j := by simp [flR]
theorem flR_zero (L G : List Int) (m : Nat) : flR L G m 0 = List.replicate m 0 := by
  apply List.ext_getElem
  · simp [flR]
  · intro i h1 h2; simp [flR, ldk]
theorem flR_set {L G : List Int} {m k j : Nat} (hG : G.getD k 0 = (j : Int)) : (flR L G m k).set j (ldk L G k j + L.getD k 0) = flR L G m (k + 1) := by
  apply List.ext_getElem
  · simp [flR]
  · intro i h1 h2
    rw [List.getElem_set]
    by_cases e : j = i
    · subst e
      rw [if_pos rfl, flR_at, ldk, if_pos hG]
    · rw [if_neg e, flR_at, flR_at, ldk, if_neg (by omega)]
      omega
theorem flR_push {L G : List Int} {m k : Nat} (h : mxk G k < m) : flR L G m k ++ [0] = flR L G (m + 1) k := by
  rw [flR, flR, List.range_succ, List.map_append, List.map_singleton, ldk_above h]

/-- Good bars. -/
def GbOk (L : List Int) (bar : Int) (G : List Int) : Prop := BrOk 20 L bar ∧ G.length = L.length ∧ (∀ g ∈ G, 0 ≤ g ∧ g ≤ (L.length : Int) - 1) ∧ ∀ j, j < nbk G G.length → 1 ≤ ldk L G G.length (j : Nat) ∧ ldk L G G.length (j : Nat) ≤ bar
instance (L : List Int) (bar : Int) (G : List Int) : Decidable (GbOk L bar G) := by unfold GbOk; infer_instance
def gbB (L : List Int) (bar : Int) (G : List Int) : Bool := decide (GbOk L bar G)
theorem gbB_iff {L : List Int} {bar : Int} {G : List Int} : gbB L bar G = true ↔ GbOk L bar G := by simp [gbB]
theorem gbB_not {L : List Int} {bar : Int} {G : List Int} : gbB L bar G = false ↔ ¬ GbOk L bar G := by simp [gbB]

/-- The greatest number of a list, at least 0; the sum of a list's first numbers. -/
def hik (G : List Int) : Nat → Int
  | 0 => 0
  | k + 1 => max (hik G k) (G.getD k 0)
def sumk (L : List Int) : Nat → Int
  | 0 => 0
  | k + 1 => sumk L k + L.getD k 0
theorem hik_mxk (G : List Int) : ∀ k, hik G k = max 0 (mxk G k)
  | 0 => by simp only [hik, mxk]; omega
  | k + 1 => by simp only [hik, mxk, hik_mxk G k]; omega
/-- The numbers from the other end. -/
def oth (m : Int) (G : List Int) : List Int := G.map fun g => m - g
theorem oth_len (m : Int) (G : List Int) : (oth m G).length = G.length := by simp [oth]
theorem oth_at {m : Int} {G : List Int} {i : Nat} (h : i < G.length) : (oth m G).getD i 0 = m - G.getD i 0 := by
  rw [getD_at (by rw [oth_len]; exact h), getD_at h]; simp [oth]
theorem oth_ldk {m : Int} {L G : List Int} (j : Int) : ∀ k, k ≤ G.length → ldk L (oth m G) k j = ldk L G k (m - j)
  | 0, _ => rfl
  | k + 1, h => by
    rw [ldk, ldk, oth_ldk j k (by omega), oth_at (by omega)]
    by_cases e : m - G.getD k 0 = j
    · rw [if_pos e, if_pos (by omega)]
    · rw [if_neg e, if_neg (by omega)]
theorem good_oth {L : List Int} {bar : Int} {G : List Int} (h : GbOk L bar G) : GbOk L bar (oth (hik G G.length) G) := by
  obtain ⟨h1, h2, h3, h4⟩ := h
  have hm := hik_mxk G G.length
  have hlo := mxk_lo G G.length
  have hnb := nbk_eq G G.length
  have hg : ∀ i, i < G.length → 0 ≤ G.getD i 0 ∧ G.getD i 0 ≤ mxk G G.length := fun i hi => by
    have := mxk_ge G G.length i hi
    rw [getD_at hi] at this ⊢
    exact ⟨(h3 _ (List.getElem_mem hi)).1, this⟩
  refine ⟨h1, by rw [oth_len]; exact h2, fun g hg' => ?_, fun j hj => ?_⟩
  · simp only [oth, List.mem_map] at hg'
    obtain ⟨g0, hg0, rfl⟩ := hg'
    obtain ⟨i, hi, rfl⟩ := List.getElem_of_mem hg0
    have h5 := hg i hi
    rw [getD_at hi] at h5
    have h6 : mxk G G.length < L.length := mxk_hi (by omega) _ (fun i hi => by rw [getD_at hi]; have := (h3 _ (List.getElem_mem hi)).2; omega)
    omega
  · rw [oth_len] at hj ⊢
    rw [oth_ldk _ _ (Nat.le_refl _)]
    have h7 : mxk (oth (hik G G.length) G) G.length < hik G G.length + 1 := mxk_hi (by omega) _ (fun i hi => by rw [oth_at hi]; have := hg i hi; omega)
    have h8 := nbk_eq (oth (hik G G.length) G) G.length
    by_cases h0 : G.length = 0
    · rw [h0] at hj; simp [nbk, mxk] at hj
    · have h9 := hg 0 (by omega)
      have := h4 ((hik G G.length - j).toNat) (by omega)
      have e : (((hik G G.length - j).toNat : Nat) : Int) = hik G G.length - j := by omega
      rw [e] at this
      exact this
/-- The sums of m bars together. -/
def sumLd (L G : List Int) (k : Nat) : Nat → Int
  | 0 => 0
  | m + 1 => sumLd L G k m + ldk L G k (m : Nat)
theorem sumLd_zero (L G : List Int) : ∀ m, sumLd L G 0 m = 0
  | 0 => rfl
  | m + 1 => by rw [sumLd, sumLd_zero L G m]; rfl
theorem sumLd_succ (L G : List Int) (k : Nat) : ∀ m, sumLd L G (k + 1) m = sumLd L G k m + if 0 ≤ G.getD k 0 ∧ G.getD k 0 < m then L.getD k 0 else 0
  | 0 => by
    rw [if_neg (by omega)]; rfl
  | m + 1 => by
    rw [sumLd, sumLd_succ L G k m, sumLd, ldk]
    by_cases e : G.getD k 0 = (m : Int)
    · rw [if_pos e, if_neg (by omega), if_pos (by omega)]; omega
    · rw [if_neg e]
      by_cases h : 0 ≤ G.getD k 0 ∧ G.getD k 0 < m
      · rw [if_pos h, if_pos (by omega)]; omega
      · rw [if_neg h, if_neg (by omega)]; omega
theorem sumLd_all {L G : List Int} {m : Nat} : ∀ k, (∀ i, i < k → 0 ≤ G.getD i 0 ∧ G.getD i 0 < m) → sumLd L G k m = sumk L k
  | 0, _ => sumLd_zero L G m
  | k + 1, h => by rw [sumLd_succ, sumLd_all k (fun i hi => h i (by omega)), if_pos (h k (by omega)), sumk]
theorem sumLd_le {L G : List Int} {k : Nat} {b : Int} : ∀ m, (∀ j, j < m → ldk L G k (j : Nat) ≤ b) → sumLd L G k m ≤ m * b
  | 0, _ => by simp [sumLd]
  | m + 1, h => by
    have h1 := sumLd_le m (fun j hj => h j (by omega))
    have h2 := h m (by omega)
    have h3 : ((m + 1 : Nat) : Int) * b = m * b + b := by push_cast; rw [Int.add_mul, Int.one_mul]
    rw [sumLd, h3]
    omega
theorem good_total {L : List Int} {bar : Int} {G : List Int} (h : GbOk L bar G) (h0 : 0 < G.length) : sumk L L.length ≤ (hik G G.length + 1) * bar := by
  obtain ⟨h1, h2, h3, h4⟩ := h
  have hm := hik_mxk G G.length
  have hnb := nbk_eq G G.length
  have hg : ∀ i, i < G.length → 0 ≤ G.getD i 0 ∧ G.getD i 0 ≤ mxk G G.length := fun i hi => by
    have := mxk_ge G G.length i hi
    rw [getD_at hi] at this ⊢
    exact ⟨(h3 _ (List.getElem_mem hi)).1, this⟩
  have h5 := hg 0 h0
  rw [← h2, ← sumLd_all (L := L) (G := G) (m := nbk G G.length) G.length (fun i hi => by have := hg i hi; omega)]
  have h6 := sumLd_le (L := L) (G := G) (k := G.length) (b := bar) (nbk G G.length) (fun j hj => (h4 j hj).2)
  have e : hik G G.length + 1 = (nbk G G.length : Int) := by omega
  rw [e]
  exact h6
theorem sumk_bd {L : List Int} {b : Int} (h : ∀ x ∈ L, 0 ≤ x ∧ x ≤ b) : ∀ k, k ≤ L.length → 0 ≤ sumk L k ∧ sumk L k ≤ b * k
  | 0, _ => by simp [sumk]
  | k + 1, hk => by
    have h1 := sumk_bd h k (by omega)
    have h2 := h _ (List.getElem_mem (show k < L.length by omega))
    have h3 : b * ((k + 1 : Nat) : Int) = b * k + b := by push_cast; rw [Int.mul_add, Int.mul_one]
    rw [h3]
    simp only [sumk, getD_at (show k < L.length by omega)]
    omega

end Go.Proofs.Ytkckaooimffdpaa

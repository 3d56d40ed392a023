/-
  Long turns rise or fall: the plain law (no program in sight).
-/
import Derived.Test.YtcfhncckeedipaaRiseP
namespace Go.Proofs.Ytcfhncckeedipaa
set_option linter.unusedSimpArgs false
set_option linter.unusedVariables false

/-- Different numbers below N are at most N. -/
theorem nodup_le : ∀ (N : Nat) (l : List Nat), l.Nodup → (∀ x ∈ l, x < N) → l.length ≤ N
  | 0, l, _, h => by
    cases l with
    | nil => simp
    | cons x l => have := h x (by simp); omega
  | N + 1, l, hn, h => by
    have h1 := nodup_le N (l.erase N) (hn.sublist List.erase_sublist) (fun x hx => by
      have h2 := h x (List.mem_of_mem_erase hx)
      have h3 : x ≠ N := fun e => by subst e; exact (hn.not_mem_erase) hx
      omega)
    have h4 := List.length_erase_le (a := N) (l := l)
    have h5 : l.length ≤ (l.erase N).length + 1 := by
      rw [List.length_erase]
      split <;> omega
    omega

/-- Along a lesser number the rises grow. -/
theorem rises_lt (L : List Int) {i j : Nat} (hij : i < j) (hj : j < L.length) (h : L[i]'(by omega) < L[j]) : (risesL L).getD i 0 + 1 ≤ (risesL L).getD j 0 := by
  have hi : i < L.length := by omega
  rw [risesL_at L j hj]
  have hlen := risesTo_len L j
  have key : ∀ k, i < k → k ≤ j → (risesTo L j).getD i 0 + 1 ≤ riseTo L (risesTo L j) j k := by
    intro k
    induction k with
    | zero => intro h1; omega
    | succ k ih =>
      intro h1 h2
      by_cases e : k = i
      · subst e
        rw [riseTo_yes (by omega) hj (by omega) h, List.getD_eq_getElem?_getD, List.getElem?_eq_getElem (by omega)]
        simp only [Option.getD_some]
        omega
      · have h3 := ih (by omega) (by omega)
        by_cases hlt : L[k]'(by omega) < L[j]
        · rw [riseTo_yes (by omega) hj (by omega) hlt]; omega
        · rw [riseTo_no (by omega) hj hlt]; exact h3
  have h1 := key j hij (Nat.le_refl _)
  have h2 := risesTo_prefix L j i hij L.length (by omega)
  unfold risesL
  omega

theorem getD_eq (L : List Int) (i : Nat) (hi : i < L.length) : L.getD i 0 = L[i] := by rw [List.getD_eq_getElem?_getD, List.getElem?_eq_getElem hi]; rfl
/-- Long turns rise or fall. -/
theorem rise_fall (L : List Int) (hn : L.Nodup) : (L.length : Int) ≤ top (risesL L) * top (risesL L.reverse) := by
  obtain ⟨R, hR⟩ := Int.eq_ofNat_of_zero_le (top_nonneg (risesL L))
  obtain ⟨D, hD⟩ := Int.eq_ofNat_of_zero_le (top_nonneg (risesL L.reverse))
  have hr : ∀ i, i < L.length → 1 ≤ (risesL L).getD i 0 ∧ (risesL L).getD i 0 ≤ R := fun i hi => by
    have h1 := risesL_lo L i hi
    have hl : i < (risesL L).length := by rw [risesL_len]; exact hi
    have h2 := top_ge (risesL L) ((risesL L).getD i 0) (by rw [getD_eq _ i hl]; exact List.getElem_mem hl)
    rw [hR] at h2
    exact ⟨h1, h2⟩
  have hd : ∀ i, i < L.length → 1 ≤ (risesL L.reverse).getD i 0 ∧ (risesL L.reverse).getD i 0 ≤ D := fun i hi => by
    have h1 := risesL_lo L.reverse i (by simpa using hi)
    have hl : i < (risesL L.reverse).length := by rw [risesL_len]; simpa using hi
    have h2 := top_ge (risesL L.reverse) ((risesL L.reverse).getD i 0) (by rw [getD_eq _ i hl]; exact List.getElem_mem hl)
    rw [hD] at h2
    exact ⟨h1, h2⟩
  have hnod : ((List.range L.length).map fun i => (((risesL L).getD i 0).toNat - 1) * D + (((risesL L.reverse).getD (L.length - 1 - i) 0).toNat - 1)).Nodup := by
    unfold List.Nodup
    rw [List.pairwise_map]
    refine List.Pairwise.imp_of_mem ?_ (List.pairwise_lt_range (n := L.length))
    intro i j hi hj hij
    rw [List.mem_range] at hi hj
    have r1 := hr i hi
    have r2 := hr j hj
    have d1 := hd (L.length - 1 - i) (by omega)
    have d2 := hd (L.length - 1 - j) (by omega)
    have hne : L[i] ≠ L[j] := by
      have h := hn
      unfold List.Nodup at h
      rw [List.pairwise_iff_getElem] at h
      exact h i j hi hj hij
    have hrev : ∀ k (hk : k < L.length), L.reverse[L.length - 1 - k]'(by simp; omega) = L[k] := fun k hk => by
      rw [List.getElem_reverse]
      congr 1
      omega
    rcases Int.lt_or_gt_of_ne hne with h | h
    · have := rises_lt L hij hj h
      intro e
      have e2 : ((risesL L).getD i 0).toNat - 1 < ((risesL L).getD j 0).toNat - 1 := by omega
      have e3 := Nat.mul_le_mul_right D (show ((risesL L).getD i 0).toNat - 1 + 1 ≤ ((risesL L).getD j 0).toNat - 1 from e2)
      rw [Nat.add_mul] at e3
      omega
    · have hlt : L.reverse[L.length - 1 - j]'(by simp; omega) < L.reverse[L.length - 1 - i]'(by simp; omega) := by rw [hrev i hi, hrev j hj]; exact h
      have := rises_lt L.reverse (show L.length - 1 - j < L.length - 1 - i by omega) (by simp; omega) hlt
      intro e
      have e2 : ((risesL L.reverse).getD (L.length - 1 - j) 0).toNat - 1 < ((risesL L.reverse).getD (L.length - 1 - i) 0).toNat - 1 := by omega
      rcases Nat.lt_trichotomy (((risesL L).getD i 0).toNat - 1) (((risesL L).getD j 0).toNat - 1) with h1 | h1 | h1
      · have e3 := Nat.mul_le_mul_right D (show ((risesL L).getD i 0).toNat - 1 + 1 ≤ ((risesL L).getD j 0).toNat - 1 from h1)
        rw [Nat.add_mul] at e3
        omega
      · rw [h1] at e; omega
      · have e3 := Nat.mul_le_mul_right D (show ((risesL L).getD j 0).toNat - 1 + 1 ≤ ((risesL L).getD i 0).toNat - 1 from h1)
        rw [Nat.add_mul] at e3
        omega
  have hlen := nodup_le (R * D) _ hnod (fun x hx => by
    rw [List.mem_map] at hx
    obtain ⟨i, hi, rfl⟩ := hx
    rw [List.mem_range] at hi
    have r1 := hr i hi
    have d1 := hd (L.length - 1 - i) (by omega)
    have e3 := Nat.mul_le_mul_right D (show ((risesL L).getD i 0).toNat - 1 + 1 ≤ R by omega)
    rw [Nat.add_mul] at e3
    omega)
  rw [List.length_map, List.length_range] at hlen
  rw [hR, hD]
  exact_mod_cast hlen

end Go.Proofs.Ytcfhncckeedipaa
